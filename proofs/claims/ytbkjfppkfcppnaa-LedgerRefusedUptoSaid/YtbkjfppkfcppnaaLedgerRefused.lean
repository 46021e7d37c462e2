/-
  What is refused changes nothing, but that the fence may rise: LedgerRefused answers true for every input of bulk at most 1048576. (Said is false BY SIZE.)
-/
import Derived.Test.YtbkjfppkfcppnaaAwk12
import Derived.Test.YtbkjfppkfcppnaaGrt12S
import Derived.Test.YtbkjfppkfcppnaaOwnC
import Derived.Test.YtbkjfppkfcppnaaLedR
import Derived.Test.YtbkjfppkfcppnaaDeed4
import Derived.Test.YtbkjfppkfcppnaaFLedgerRefused
namespace Go.Proofs.Ytbkjfppkfcppnaa
open Go.RowKit Go.ChangeShapes Go.WideShapes Go.ChangeAt

theorem sumμ_memL {α : Type} {f : α → Nat} {a : α} : ∀ {l : List α}, a ∈ l → f a ≤ Rp.sumμ f l
  | b :: l, h => by
    unfold Rp.sumμ
    rw [List.map_cons, List.sum_cons]
    rcases List.mem_cons.1 h with rfl | h
    · omega
    · have := sumμ_memL (f := f) h
      unfold Rp.sumμ at this
      omega
theorem sumμ_lengthL {α : Type} {f : α → Nat} (hf : ∀ a, 1 ≤ f a) : ∀ l : List α, l.length ≤ Rp.sumμ f l
  | [] => Nat.zero_le _
  | b :: l => by
    have := sumμ_lengthL hf l
    have := hf b
    unfold Rp.sumμ at *
    rw [List.map_cons, List.sum_cons, List.length_cons]; omega
theorem strs_μ (l : List ByteArray) : l.length + 1 ≤ Rp.str.slice.μ l := by
  have := sumμ_lengthL (f := Rp.str.μ) (fun a => by show 1 ≤ a.size + 1; omega) l
  show _ ≤ 1 + Rp.sumμ Rp.str.μ l
  omega
theorem opl_μ (o : OpL) : o.hashes.length + 1 ≤ Rp.opl.μ o := by
  have := strs_μ o.hashes
  show _ ≤ o.name.size + Rp.str.slice.μ o.hashes
  omega
theorem cmd_μ (c : CmdL) : c.op.hashes.length + 1 ≤ Rp.cmd.μ c ∧ c.ops.length + 1 ≤ Rp.cmd.μ c ∧ ∀ o ∈ c.ops, o.hashes.length ≤ Rp.cmd.μ c := by
  have h1 := opl_μ c.op
  have h2 := sumμ_lengthL (f := Rp.opl.μ) (fun o => by have := opl_μ o; omega) c.ops
  have e : Rp.cmd.μ c = Rp.opl.μ c.op + (1 + Rp.sumμ Rp.opl.μ c.ops) := rfl
  refine ⟨by omega, by omega, fun o ho => ?_⟩
  have h3 := sumμ_memL (f := Rp.opl.μ) ho
  have h4 := opl_μ o
  omega
theorem cmd_small {c : CmdL} (h : Rp.cmd.μ c ≤ 1048576) : SmallC 1048576 1048576 c := by
  obtain ⟨h1, h2, h3⟩ := cmd_μ c
  exact ⟨by omega, by omega, fun o ho => by have := h3 o ho; omega⟩
theorem cmds_small {l : List CmdL} (h : Rp.cmd.slice.μ l ≤ 1048576) : ∀ c ∈ l, SmallC 1048576 1048576 c := fun c hc => by
  have e : Rp.cmd.slice.μ l = 1 + Rp.sumμ Rp.cmd.μ l := rfl
  have h3 := sumμ_memL (f := Rp.cmd.μ) hc
  exact cmd_small (by omega)
theorem Side.start1 {w0 w : World} {l x : Nat} {L : LV} {F : Nat → Prop} {T : TypeId} {cs : List Value} (h : LAt w l L F) (hF : ∀ k, F k → w0.heap.size ≤ k) (hk : Kp No w0 w) (hb : Blk w x T cs) (hx : w0.heap.size ≤ x) (hxF : ¬ F x) : Side w0 w l L [(x, T, cs)] :=
  ⟨⟨F, h, hF, fun b hm => by rw [List.mem_singleton.1 hm]; exact hxF⟩, fun b hm => by rw [List.mem_singleton.1 hm]; exact hb, fun b hm => by rw [List.mem_singleton.1 hm]; exact hx, by simp, hk⟩
/-- a command whose lists are new -/
theorem Side.applyNew {w0 w w' : World} {l : Nat} {L : LV} {bs : List (Nat × TypeId × List Value)} {B : Nat} (h : Side w0 w l L bs) (hk : Kp No w w') (hok : OkL B L) (hB : B ≤ 800000) (c : CmdL) (A Bo : Option Addr) (ca cb : Nat) (hh : Rp.str.slice.R w' (fun k => w.heap.size ≤ k) [.slice A c.op.hashes.length ca] c.op.hashes)
    (ho : Rp.opl.slice.R w' (fun k => w.heap.size ≤ k) [.slice Bo c.ops.length cb] c.ops) (hn : c.nums) (hs : SmallC 1000000 1000000 c) :
    Calls Try.prog 18 #[.pointer (some ⟨l, 0, none⟩), cmdV c (.slice A c.op.hashes.length ca) (.slice Bo c.ops.length cb)] w' fun x w2 => x = .returned (doneV (applyL c L).1) ∧ Side w0 w2 l (applyL c L).2 bs := by
  obtain ⟨F, h1, h2, h3⟩ := h.ex
  have hs' := h.keptNo hk
  refine (a_apply c A Bo ca cb _ B l L F w' (h1.keptNo hk) hok hB hh ho (fun k hk _ hF => by have := h1.lt k hF; omega) (bounds_I64 hn.2.2.2.1.2.2.2.2.2.2.2) hs.1 hs.2.1 hs.2.2).mono ?_
  rintro x w2 ⟨rfl, F', ha, hu⟩
  refine ⟨rfl, ⟨F', ha, fun k hk => (hu.foot k hk).elim (h2 k) (fun hle => Nat.le_trans hs'.kp.size hle), fun b hb hF => ?_⟩, fun b hb => (hs'.blk b hb).kept hu.kp (h3 b hb), h.new, h.nd, hs'.kp.trans hu.kp (fun i hi e => ?_)⟩
  · rcases hu.foot b.1 hF with hf | hf
    · exact h3 b hb hf
    · have := Blk.lt (hs'.blk b hb); omega
  · have := h2 i e; omega
theorem SmallC.mono {m k m' k' : Nat} {c : CmdL} (h : SmallC m k c) (hm : m ≤ m') (hk : k ≤ k') : SmallC m' k' c := ⟨by have := h.1; omega, by have := h.2.1; omega, fun o ho => by have := h.2.2 o ho; omega⟩
set_option maxRecDepth 100000 in
set_option maxHeartbeats 20000000 in
theorem ledgerRefusedUpto_walk : LedgerRefusedUptoWalk := by
  intro W v0 q v1 r v2 script v3 c h0 h1 h2 h3 hμ
  obtain ⟨hv0, _⟩ := h0
  obtain ⟨hv1, _⟩ := h1
  obtain ⟨As, cas, hv2, _⟩ := id h2
  obtain ⟨A, ca, B, cb, hv3, hn, hh, ho⟩ := h3
  simp only [List.cons.injEq, and_true] at hv0 hv1 hv2 hv3
  subst hv0 hv1 hv2 hv3
  have hμ2 : Rp.cmd.slice.μ script ≤ 1048576 := by omega
  have hμ3 : Rp.cmd.μ c ≤ 1048576 := by have e : Rd.cmd.μ c = Rp.cmd.μ c := rfl; omega
  have hsm := cmds_small hμ2
  have hsc := cmd_small hμ3
  have hk0 : Kp No W (W.alloc (.cells (cmdC c (.slice A c.op.hashes.length ca) (.slice B c.ops.length cb)).toArray 36)) := (Kp.refl _ _).alloc _
  have hb0 : Blk (W.alloc (.cells (cmdC c (.slice A c.op.hashes.length ca) (.slice B c.ops.length cb)).toArray 36)) W.heap.size 36 (cmdC c (.slice A c.op.hashes.length ca) (.slice B c.ops.length cb)) := Blk.new W _ _
  have hgs : ∀ w, Kp No W w → Calls Try.prog 14 #[.slice As script.length cas] w fun e w' => GreatS script e ∧ Kp No w w' := fun w hk => h_great12S script As cas w _ (Rp.cmd.slice.keptNo h2 hk) hsm
  have hgc : ∀ w, Kp No W w → Calls Try.prog 14 #[.slice (some ⟨w.heap.size, 0, none⟩) 1 1] (w.alloc (.cells (cmdC c (.slice A c.op.hashes.length ca) (.slice B c.ops.length cb)).toArray 36)) fun e w' => GreatS [c] e ∧ Kp No (w.alloc (.cells (cmdC c (.slice A c.op.hashes.length ca) (.slice B c.ops.length cb)).toArray 36)) w' := fun w hk =>
    h_great12S [c] (some ⟨w.heap.size, 0, none⟩) 1 _ _ (Own.oneC w c _ _ _ hn (Rp.str.slice.keptNo hh hk) (Rp.opl.slice.keptNo ho hk) rfl rfl).readFrom (fun d hd => by rw [List.mem_singleton.1 hd]; exact hsc)
  have hli := fun w => run_lit_cmd w c (.slice A c.op.hashes.length ca) (.slice B c.ops.length cb)
  have hown := fun w (hk : Kp No W w) (hs : SmallC 1000000 1000000 c) => r_own c A B ca cb w _ hn (Rp.str.slice.keptNo hh hk) (Rp.opl.slice.keptNo ho hk) hs.1 hs.2.1 hs.2.2
  have HSCR := Lib.hid h2
  have HN := Lib.hid hn
  obtain ⟨hnm, hhn⟩ : ∃ k, c.op.hashes.length = k := ⟨_, rfl⟩
  obtain ⟨onm, hon⟩ : ∃ k, c.ops.length = k := ⟨_, rfl⟩
  have HHN := Lib.hid hhn
  have HON := Lib.hid hon
  rw [hhn, hon] at hk0 hb0 hgc hli hown ⊢
  clear hhn hon hh ho hn h2 hμ hμ2 hμ3 hsm hsc
  obtain ⟨x, hx⟩ : ∃ x, W.heap.size = x := ⟨_, rfl⟩
  obtain ⟨wa, hwa⟩ : ∃ w, W.alloc (.cells (cmdC c (.slice A hnm ca) (.slice B onm cb)).toArray 36) = w := ⟨_, rfl⟩
  rw [hwa] at hk0 hb0
  rw [hx] at hb0
  have hxw : W.heap.size ≤ x := Nat.le_of_eq hx
  unfold cmdC at hwa hb0 hgc hli
  unfold cmdV at hli hown ⊢
  have HGS := Lib.hid hgs
  have HGC := Lib.hid hgc
  have HLI := Lib.hid hli
  have HOW := Lib.hid hown
  have HK0 := Lib.hid hk0
  have HB0 := Lib.hid hb0
  have HXW := Lib.hid hxw
  clear hgs hgc hli hown hk0 hb0 hxw
  by_cases hnew : newP q r
  case neg =>
    have hnb := a_new_bad q r wa hnew
    have HNB := Lib.hid hnb
    clear hnb hnew
    go_enter Try.func5, Try.ntmps5
    go_wp2_with fail
    clear hwa hx
    refine HNB.out.mono ?_
    rintro e w1 ⟨rfl, rfl⟩
    go_wp2_with fail
    refine (h_awake12 w1).mono ?_
    rintro e w2 ⟨rfl, hk2⟩
    have HK2 := Lib.hid (HK0.out.trans' hk2)
    clear hk2
    go_wp2_with fail
    refine (h_awake12 w2).mono ?_
    rintro e wz ⟨rfl, hkz⟩
    have HKZ := Lib.hid (HK2.out.trans' hkz)
    clear hkz
    go_wp2_with fail
    go_ret
    exact ⟨rfl, HKZ.out⟩
  case pos =>
    have hnb := a_new q r wa hnew
    have HNB := Lib.hid hnb
    have HOK0 := Lib.hid (newL_ok hnew)
    clear hnb hnew
    go_enter Try.func5, Try.ntmps5
    go_wp2_with fail
    clear hwa hx
    refine HNB.out.mono ?_
    rintro e w1 ⟨l, F, rfl, hl, hF, hk1⟩
    have hxl : x < wa.heap.size := Blk.lt HB0.out
    have HS1 : Hid (Side W w1 l (newL q r) [(x, 36, _)]) := Lib.hid (Side.start1 hl (fun k hk => by have := hF k hk; have := HK0.out.size; omega) (HK0.out.trans' hk1) (HB0.out.kept hk1 (fun x => x)) HXW.out (fun e => by have := hF x e; omega))
    clear hl hF hk1 hxl HB0 HK0 HNB
    go_wp2_with fail
    refine (h_awake12 w1).mono ?_
    rintro e w2 ⟨rfl, hk2⟩
    have HS2 := Lib.hid (HS1.out.keptNo hk2)
    clear hk2 HS1
    go_wp2_with fail
    refine (HGS.out w2 HS2.out.kp).mono ?_
    rintro e w3 ⟨⟨b, rfl, hsm⟩, hk3⟩
    have HSM := Lib.hid hsm
    have HS3 := Lib.hid (HS2.out.keptNo hk3)
    clear hk3 HS2 hsm HGS
    cases b
    case true =>
      clear HSM HGC HLI HOW
      go_wp2_with fail
      refine (h_awake12 w3).mono ?_
      rintro e wz ⟨rfl, hkz⟩
      have HKZ := Lib.hid (HS3.out.kp.trans' hkz)
      clear hkz
      go_wp2_with fail
      go_ret
      exact ⟨rfl, HKZ.out⟩
    have hb3 := HS3.out.blk _ List.mem_cons_self
    have z0 : w3.cell? ⟨x, 0, none⟩ = some _ := Blk.cell hb3 rfl
    have z1 : w3.cell? ⟨x, 1, none⟩ = some _ := Blk.cell hb3 rfl
    have z2 : w3.cell? ⟨x, 2, none⟩ = some _ := Blk.cell hb3 rfl
    have z3 : w3.cell? ⟨x, 3, none⟩ = some _ := Blk.cell hb3 rfl
    have z4 : w3.cell? ⟨x, 4, none⟩ = some _ := Blk.cell hb3 rfl
    have z5 : w3.cell? ⟨x, 5, none⟩ = some _ := Blk.cell hb3 rfl
    have z6 : w3.cell? ⟨x, 6, none⟩ = some _ := Blk.cell hb3 rfl
    have z7 : w3.cell? ⟨x, 7, none⟩ = some _ := Blk.cell hb3 rfl
    have z8 : w3.cell? ⟨x, 8, none⟩ = some _ := Blk.cell hb3 rfl
    have z9 : w3.cell? ⟨x, 9, none⟩ = some _ := Blk.cell hb3 rfl
    have z10 : w3.cell? ⟨x, 10, none⟩ = some _ := Blk.cell hb3 rfl
    have z11 : w3.cell? ⟨x, 11, none⟩ = some _ := Blk.cell hb3 rfl
    have z12 : w3.cell? ⟨x, 12, none⟩ = some _ := Blk.cell hb3 rfl
    have z13 : w3.cell? ⟨x, 13, none⟩ = some _ := Blk.cell hb3 rfl
    have z14 : w3.cell? ⟨x, 14, none⟩ = some _ := Blk.cell hb3 rfl
    have z15 : w3.cell? ⟨x, 15, none⟩ = some _ := Blk.cell hb3 rfl
    clear hb3
    have HL3 := Lib.hid (HLI.out w3)
    clear HLI
    go_wp2_with (refine wpList_litW (by first | rfl | go_simp) 22 _ rfl _ _ (by go_simp) HL3.out ?_; go_simp)
    clear z0 z1 z2 z3 z4 z5 z6 z7 z8 z9 z10 z11 z12 z13 z14 z15 HL3
    refine (HGC.out w3 HS3.out.kp).mono ?_
    rintro e w4 ⟨⟨b, rfl, hsc⟩, hk4⟩
    have HSC := Lib.hid hsc
    have HS4 := Lib.hid ((HS3.out.keptNo ((Kp.refl _ _).alloc _)).keptNo hk4)
    clear hk4 HS3 hsc HGC
    cases b
    case true =>
      clear HSM HSC HOW
      go_wp2_with fail
      refine (h_awake12 w4).mono ?_
      rintro e wz ⟨rfl, hkz⟩
      have HKZ := Lib.hid (HS4.out.kp.trans' hkz)
      clear hkz
      go_wp2_with fail
      go_ret
      exact ⟨rfl, HKZ.out⟩
    obtain ⟨hsn, hs2⟩ := HSM.out (by first | rfl | trivial)
    have HS200 := Lib.hid hs2
    have hsc := (HSC.out (by first | rfl | trivial)).2 c (List.mem_singleton.2 rfl)
    have HSCC := Lib.hid hsc
    have hn200 : (script.length : Int) ≤ 200 := by omega
    clear HSM HSC hs2 hsc
    go_wp2_with fail
    go_loopw [41] (fun iv wr => ∃ (i : Nat) (L : LV), i ≤ script.length ∧ iv = .int .i64 (i : Int) ∧ Hid (OkL (80 * i) L) ∧ Hid (Side W wr l L [(x, 36, _)])) (fun iv _ => script.length - (intOf iv).toNat)
    case atStart => exact ⟨0, newL q r, Nat.zero_le _, rfl, HOK0, HS4⟩
    case round =>
      clear HS4 HOK0
      rename_i q1 q2 q3 yQ yK yH
      obtain ⟨i, L, hi, rfl, HOKL, HS⟩ := hrel
      by_cases hlt : i < script.length
      · revert yQ
        as_aux_lemma =>
          intros
          have hli : (i : Int) < (script.length : Int) := by omega
          obtain ⟨o, hoi⟩ : ∃ o, script[i]? = some o := ⟨_, List.getElem?_eq_getElem hlt⟩
          obtain ⟨ad, A', c', B', d', rfl, _, hcell, hon, hoh, hoo⟩ := Rp.at_cmd (Rp.cmd.slice.keptNo HSCR.out HS.out.kp) hoi
          obtain ⟨z0, z1, z2, z3, z4, z5, z6, z7, z8, z9, z10, z11, z12, z13, z14, z15⟩ := cmd_cells hcell
          have hso := (HS200.out o (List.mem_of_getElem? hoi)).mono (m' := 1000000) (k' := 1000000) (by omega) (by omega)
          have how := fun w (hk : Kp No wr w) => r_own o A' B' c' d' w _ hon (Rp.str.slice.keptNo hoh hk) (Rp.opl.slice.keptNo hoo hk) hso.1 hso.2.1 hso.2.2
          have hap := fun (bs : List (Nat × TypeId × List Value)) (w : World) (hS : Side W w l L bs) (w' : World) (hk : Kp No w w') => fun A Bo ca cb hh ho => hS.applyNew hk HOKL.out (by omega) o A Bo ca cb hh ho hon hso
          have hok2 := (apply_ok HOKL.out o).mono (show 80 * i + 80 ≤ 80 * (i + 1) by omega)
          unfold cmdV at how hap
          have HOW2 := Lib.hid how
          have HAP := Lib.hid hap
          have HOK2 := Lib.hid hok2
          clear hcell hon hoh hoo hso how hap hok2 hoi
          obtain ⟨ck, ep, st, ⟨on, oe, ok, os, oc, oq, onm2, osz, ohs⟩, an, ae, ops, tg⟩ := o
          simp only at *
          go_wp2_with fail
          clear z0 z1 z2 z3 z4 z5 z6 z7 z8 z9 z10 z11 z12 z13 z14 z15
          refine (HOW2.out _ ((Kp.refl _ _).alloc _)).mono ?_
          rintro e w5 ⟨A2, c2, B2, d2, rfl, hr1, hr2, hk5⟩
          have HA2 := Lib.hid (HAP.out _ _ (HS.out.keptNo ((Kp.refl _ _).alloc _)) w5 hk5 A2 B2 c2 d2 hr1 hr2)
          clear hr1 hr2 hk5 HAP HOW2 HS
          go_wp2_with fail
          refine HA2.out.mono ?_
          rintro e w6 ⟨rfl, hs6⟩
          have HS6 := Lib.hid hs6
          clear hs6 HA2
          go_wp2_with fail
          go_roundw
          case rel => exact ⟨i + 1, _, by omega, by go_num, HOK2, HS6⟩
          case measure => simp [intOf]; omega
      · obtain rfl : i = script.length := by omega
        obtain ⟨F, hla, hF0, hFx⟩ := HS.out.ex
        have hxF := hFx _ List.mem_cons_self
        have hbx := HS.out.blk _ List.mem_cons_self
        have hlen := HOKL.out.len
        have hlost := HOKL.out.lost
        have HKW := Lib.hid HS.out.kp
        have HXF := Lib.hid hxF
        have HBX := Lib.hid hbx
        have HLA := Lib.hid hla
        have HF0 := Lib.hid hF0
        have HFL : Hid (∀ k, F k → k < wr.heap.size) := Lib.hid (fun k hk => hla.lt k hk)
        have hops := a_ops l L F wr hla (by omega) HOKL.out.hashes
        have HOPS := Lib.hid hops
        clear hla hF0 hFx hxF hbx hops HS HS200 HSCR
        go_wp2_with fail
        refine HOPS.out.mono ?_
        rintro e w5 ⟨A1, c1, rfl, hown1, hk5⟩
        have HR1 : Hid (Rp.opl.slice.R w5 (fun k => wr.heap.size ≤ k) [.slice A1 L.ops.length c1] L.ops) := Lib.hid (Rp.opl.slice.more hown1.readFrom (fun k hk => by rcases hk with hk | hk <;> exact hk))
        have hls := a_lost l L F w5 (HLA.out.keptNo hk5) (by omega) HOKL.out.hashesLost
        have HLS := Lib.hid hls
        have HK5 := Lib.hid hk5
        clear hown1 hk5 hls HOPS
        go_wp2_with fail
        refine HLS.out.mono ?_
        rintro e w6 ⟨A2, c2, rfl, hown2, hk6⟩
        have HR2 : Hid (Rp.opl.slice.R w6 (fun k => wr.heap.size ≤ k) [.slice A2 L.lost.length c2] L.lost) := Lib.hid (Rp.opl.slice.more hown2.readFrom (fun k hk => by have := HK5.out.size; rcases hk with hk | hk <;> exact Nat.le_trans this hk))
        have HR1b := Lib.hid (Rp.opl.slice.keptNo HR1.out hk6)
        have hk56 := HK5.out.trans' hk6
        have HK6 := Lib.hid hk56
        have HKW6 := Lib.hid (HKW.out.trans' hk56)
        have hfe := a_fence l L F w6 (HLA.out.keptNo hk56)
        have hla6 := HLA.out.keptNo hk56
        have HLA6 := Lib.hid hla6
        have hb6 := HBX.out.kept hk56 (fun x => x)
        have HB6 := Lib.hid hb6
        have HFE := Lib.hid hfe
        have z0 : w6.cell? ⟨x, 0, none⟩ = some _ := Blk.cell hb6 rfl
        have z1 : w6.cell? ⟨x, 1, none⟩ = some _ := Blk.cell hb6 rfl
        have z2 : w6.cell? ⟨x, 2, none⟩ = some _ := Blk.cell hb6 rfl
        have z3 : w6.cell? ⟨x, 3, none⟩ = some _ := Blk.cell hb6 rfl
        have z4 : w6.cell? ⟨x, 4, none⟩ = some _ := Blk.cell hb6 rfl
        have z5 : w6.cell? ⟨x, 5, none⟩ = some _ := Blk.cell hb6 rfl
        have z6 : w6.cell? ⟨x, 6, none⟩ = some _ := Blk.cell hb6 rfl
        have z7 : w6.cell? ⟨x, 7, none⟩ = some _ := Blk.cell hb6 rfl
        have z8 : w6.cell? ⟨x, 8, none⟩ = some _ := Blk.cell hb6 rfl
        have z9 : w6.cell? ⟨x, 9, none⟩ = some _ := Blk.cell hb6 rfl
        have z10 : w6.cell? ⟨x, 10, none⟩ = some _ := Blk.cell hb6 rfl
        have z11 : w6.cell? ⟨x, 11, none⟩ = some _ := Blk.cell hb6 rfl
        have z12 : w6.cell? ⟨x, 12, none⟩ = some _ := Blk.cell hb6 rfl
        have z13 : w6.cell? ⟨x, 13, none⟩ = some _ := Blk.cell hb6 rfl
        have z14 : w6.cell? ⟨x, 14, none⟩ = some _ := Blk.cell hb6 rfl
        have z15 : w6.cell? ⟨x, 15, none⟩ = some _ := Blk.cell hb6 rfl
        clear hown2 hk6 hk56 hfe hla6 hb6 HLS HR1 HK5 HLA HBX HKW
        go_wp2_with fail
        refine HFE.out.mono ?_
        rintro e w7 ⟨rfl, rfl⟩
        clear HFE
        go_wp2_with fail
        refine (HOW.out w7 HKW6.out (HSCC.out.mono (by omega) (by omega))).mono ?_
        rintro e w8 ⟨A3, c3, B3, d3, rfl, hr1, hr2, hk8⟩
        clear z0 z1 z2 z3 z4 z5 z6 z7 z8 z9 z10 z11 z12 z13 z14 z15 HOW
        obtain ⟨⟨⟨p0, p1, p2⟩, L'⟩, hP⟩ : ∃ P, applyL c L = P := ⟨_, rfl⟩
        have hap : Calls Try.prog 18 #[.pointer (some ⟨l, 0, none⟩), cmdV c (.slice A3 hnm c3) (.slice B3 onm d3)] w8 fun x w' => x = .returned (doneV (p0, p1, p2)) ∧ ∃ F', LAt w' l L' F' ∧ Upd F w8 w' F' := by
          have hsm := HSCC.out
          have h := a_apply c A3 B3 c3 d3 (fun k => w7.heap.size ≤ k) (80 * script.length) l L F w8 (HLA6.out.keptNo hk8) HOKL.out (by omega) (by rw [HHN.out]; exact hr1) (by rw [HON.out]; exact hr2) (fun k hk _ hF => by have := HLA6.out.lt k hF; omega) (bounds_I64 HN.out.2.2.2.1.2.2.2.2.2.2.2) (by have := hsm.1; omega) (by have := hsm.2.1; omega) (fun o ho => by have := hsm.2.2 o ho; omega)
          rw [HHN.out, HON.out, hP] at h
          exact h
        have HP := Lib.hid hP
        have HR1c := Lib.hid (Rp.opl.slice.keptNo HR1b.out hk8)
        have HR2c := Lib.hid (Rp.opl.slice.keptNo HR2.out hk8)
        have HB8 := Lib.hid (HB6.out.kept hk8 (fun x => x))
        have HKW8 := Lib.hid (HKW6.out.trans' hk8)
        unfold cmdV at hap
        have HAP := Lib.hid hap
        clear hr1 hr2 hk8 hP hap HR1b HR2 HB6 HKW6 HLA6 HK6
        go_wp2_with fail
        refine HAP.out.mono ?_
        rintro e w9 ⟨rfl, F', hla9, hu9⟩
        have HLA9 := Lib.hid hla9
        have HU9 := Lib.hid hu9
        have HR1d := Lib.hid (Rp.opl.slice.kept HR1c.out hu9.kp (fun k hk _ hF => by have := HFL.out k hF; omega))
        have HR2d := Lib.hid (Rp.opl.slice.kept HR2c.out hu9.kp (fun k hk _ hF => by have := HFL.out k hF; omega))
        have hb9 := HB8.out.kept hu9.kp HXF.out
        have HKW9 := Lib.hid (HKW8.out.trans hu9.kp (fun k hk hF => by have := HF0.out k hF; omega))
        have z0 : w9.cell? ⟨x, 0, none⟩ = some _ := Blk.cell hb9 rfl
        have z1 : w9.cell? ⟨x, 1, none⟩ = some _ := Blk.cell hb9 rfl
        have hlt9 : x < w9.heap.size := Blk.lt hb9
        have HBX9 := Lib.hid hb9
        unfold doneV
        obtain ⟨fe, hfe⟩ : ∃ fe, L.fence = fe := ⟨_, rfl⟩
        have HFEQ := Lib.hid hfe
        rw [hfe]
        clear hla9 hu9 hb9 hfe HAP HR1c HR2c HB8 HKW8
        go_upto_region 11 with fail
        rename_i yF yQ2 yK2 yH2 yK3 yH3 yK4 yH4
        by_cases hp0 : p0 = 0
        · revert yQ yQ2
          as_aux_lemma =>
            intros
            subst hp0
            have he := apply_epoch c L (by rw [HP.out])
            rw [HFEQ.out] at he
            have HE := Lib.hid he
            clear he
            by_cases hk0 : c.kind = 0
            · rw [hk0] at z0
              go_wp2_with fail
              go_ret
              exact ⟨rfl, HKW9.out.alloc _⟩
            · by_cases hk2 : c.kind = 2
              · rw [hk2] at z0
                go_wp2_with fail
                go_ret
                exact ⟨rfl, HKW9.out.alloc _⟩
              · have hge : fe ≤ c.epoch := by
                  rcases HE.out with h | h | h
                  · exact absurd h hk0
                  · exact absurd h hk2
                  · exact h
                have hk0b : (c.kind == 0) = false := beq_eq_false_iff_ne.2 hk0
                have hk2b : (c.kind == 2) = false := beq_eq_false_iff_ne.2 hk2
                go_wp2_with fail
                go_ret
                exact ⟨rfl, HKW9.out.alloc _⟩
        · revert yQ yQ2
          as_aux_lemma =>
            intros
            have hkp := apply_kept c L (by rw [HP.out]; exact hp0)
            rw [HP.out] at hkp
            obtain ⟨e1, e2, e3, e4, e5⟩ := hkp
            simp only [failD, Prod.mk.injEq, true_and] at e1 e2 e3 e4 e5
            obtain ⟨rfl, rfl⟩ := e1
            have hp0b : (p0 == 0) = false := beq_eq_false_iff_ne.2 hp0
            have hbd : Blk (w9.alloc (.cells #[.int .i64 p0, .int .i64 0, .int .i64 0] 42)) w9.heap.size 42 [.int .i64 p0, .int .i64 0, .int .i64 0] := Blk.new w9 _ _
            have hkd : Kp No w9 (w9.alloc (.cells #[.int .i64 p0, .int .i64 0, .int .i64 0] 42)) := (Kp.refl _ _).alloc _
            have HBD := Lib.hid hbd
            have HKD := Lib.hid hkd
            have E2 := Lib.hid e2
            have E3 := Lib.hid e3
            have E5 := Lib.hid e5
            have hset : ¬ ((L.ops.length : Int) < L'.settled) := by have := HOKL.out.settled; rw [e4]; omega
            obtain ⟨y, hy⟩ : ∃ y, w9.heap.size = y := ⟨_, rfl⟩
            clear hbd hkd e2 e3 e4 e5 z0 z1 hp0
            rw [hy] at HBD
            generalize w9.alloc (.cells #[.int .i64 p0, .int .i64 0, .int .i64 0] 42) = w10 at HBD HKD ⊢
            try rw [hy]
            clear hy hlt9
            have hst := a_settled l L' F' w10 (HLA9.out.keptNo HKD.out)
            have hb9 : Blk w10 x 36 _ := HBX9.out.kept HKD.out (fun x => x)
            have z0 : w10.cell? ⟨x, 0, none⟩ = some _ := Blk.cell hb9 rfl
            have z1 : w10.cell? ⟨x, 1, none⟩ = some _ := Blk.cell hb9 rfl
            have y0 : w10.cell? ⟨y, 0, none⟩ = some _ := Blk.cell HBD.out rfl
            have y1 : w10.cell? ⟨y, 1, none⟩ = some _ := Blk.cell HBD.out rfl
            have y2 : w10.cell? ⟨y, 2, none⟩ = some _ := Blk.cell HBD.out rfl
            have HB10 := Lib.hid hb9
            have HST := Lib.hid hst
            clear hb9 hst
            go_wp2_with fail
            refine HST.out.mono ?_
            rintro e wq ⟨rfl, rfl⟩
            go_wp2_with fail
            refine Reg.wp_region_plan [⟨0, false, []⟩, ⟨1, false, []⟩, ⟨2, false, []⟩, ⟨3, false, []⟩, ⟨4, false, []⟩, ⟨5, false, []⟩, ⟨7, false, []⟩, ⟨6, true, []⟩, ⟨8, true, []⟩, ⟨9, false, []⟩, ⟨10, false, []⟩, ⟨11, false, []⟩, ⟨13, false, []⟩, ⟨12, true, []⟩, ⟨14, true, []⟩, ⟨15, false, []⟩, ⟨16, false, []⟩, ⟨17, false, []⟩, ⟨19, false, []⟩, ⟨18, true, []⟩, ⟨20, false, []⟩, ⟨21, false, []⟩, ⟨22, false, []⟩, ⟨23, false, []⟩, ⟨24, false, []⟩, ⟨25, false, []⟩, ⟨26, false, []⟩, ⟨27, false, []⟩, ⟨28, false, []⟩, ⟨29, false, []⟩, ⟨30, false, []⟩, ⟨31, false, []⟩, ⟨33, false, []⟩, ⟨34, false, []⟩, ⟨32, true, [33, 34]⟩, ⟨35, false, []⟩, ⟨36, false, []⟩, ⟨37, false, []⟩, ⟨38, false, []⟩, ⟨39, false, []⟩] rfl (by kernel_rfl) ?_
            repeat (first | (refine Reg.look rfl rfl rfl (by go_simp; rfl) rfl ?_; go_simp) | (refine Reg.skip rfl rfl rfl ?_; go_simp))
            have hkd : Kp No w9 wq.drew := HKD.out.drew
            obtain ⟨wd, hwd⟩ : ∃ w, wq.drew = w := ⟨_, rfl⟩
            have hkq : Kp No wq wd := by rw [← hwd]; exact (Kp.refl _ _).drew
            rw [hwd] at hkd ⊢
            have HKd := Lib.hid hkd
            have HKq := Lib.hid hkq
            clear hkd hkq hwd z0 z1 y0 y1 y2 HST
            have hops := a_ops l L' F' wd (HLA9.out.keptNo HKd.out) (by rw [E2.out]; omega) (by rw [E2.out]; exact HOKL.out.hashes)
            rw [E2.out] at hops
            have HOPS := Lib.hid hops
            clear hops
            refine Reg.act rfl ?_
            go_wp2_with fail
            refine HOPS.out.mono ?_
            rintro e w11 ⟨A5, c5, rfl, hown5, hk11⟩
            have hsame := r_sameops L.ops L.ops A5 A1 c5 c1 w11 _ _ hown5.readFrom (Rp.opl.slice.keptNo HR1d.out (HKd.out.trans' hk11))
            rw [sameOps_iff.2 rfl] at hsame
            have HSA := Lib.hid hsame
            have HK11 := Lib.hid hk11
            clear hown5 hk11 hsame HOPS
            go_wp2_with fail
            (refine ⟨?anew, ?_⟩; case anew => ((repeat (refine Reg.anew_cons rfl rfl (fun _ => by go_simp) ?_)); exact Reg.anew_nil))
            repeat (first | (refine Reg.look rfl rfl rfl (by go_simp; rfl) rfl ?_; go_simp) | (refine Reg.skip rfl rfl rfl ?_; go_simp))
            refine Reg.act rfl ?_
            go_wp2_with fail
            refine HSA.out.mono ?_
            rintro e w12 ⟨rfl, hk12⟩
            have hkk12 := HK11.out.trans' hk12
            have HK12 := Lib.hid hkk12
            clear hk12 hkk12 HSA HK11
            go_wp2_with fail
            (refine ⟨?anew, ?_⟩; case anew => ((repeat (refine Reg.anew_cons rfl rfl (fun _ => by go_simp) ?_)); exact Reg.anew_nil))
            repeat (first | (refine Reg.look rfl rfl rfl (by go_simp; rfl) rfl ?_; go_simp) | (refine Reg.skip rfl rfl rfl ?_; go_simp))
            have hls := a_lost l L' F' w12 (HLA9.out.keptNo (HKd.out.trans' HK12.out)) (by rw [E3.out]; omega) (by rw [E3.out]; exact HOKL.out.hashesLost)
            rw [E3.out] at hls
            have HLS := Lib.hid hls
            clear hls
            refine Reg.act rfl ?_
            go_wp2_with fail
            refine HLS.out.mono ?_
            rintro e w13 ⟨A6, c6, rfl, hown6, hk13⟩
            have hkk13 := HK12.out.trans' hk13
            have hsame := r_sameops L.lost L.lost A6 A2 c6 c2 w13 _ _ hown6.readFrom (Rp.opl.slice.keptNo HR2d.out (HKd.out.trans' hkk13))
            rw [sameOps_iff.2 rfl] at hsame
            have HSA := Lib.hid hsame
            have HK13 := Lib.hid hkk13
            clear hown6 hk13 hkk13 hsame HLS HK12
            go_wp2_with fail
            (refine ⟨?anew, ?_⟩; case anew => ((repeat (refine Reg.anew_cons rfl rfl (fun _ => by go_simp) ?_)); exact Reg.anew_nil))
            repeat (first | (refine Reg.look rfl rfl rfl (by go_simp; rfl) rfl ?_; go_simp) | (refine Reg.skip rfl rfl rfl ?_; go_simp))
            refine Reg.act rfl ?_
            go_wp2_with fail
            refine HSA.out.mono ?_
            rintro e w14 ⟨rfl, hk14⟩
            have hkk14 := HK13.out.trans' hk14
            have HK14 := Lib.hid hkk14
            clear hk14 hkk14 HSA HK13
            go_wp2_with fail
            (refine ⟨?anew, ?_⟩; case anew => ((repeat (refine Reg.anew_cons rfl rfl (fun _ => by go_simp) ?_)); exact Reg.anew_nil))
            repeat (first | (refine Reg.look rfl rfl rfl (by go_simp; rfl) rfl ?_; go_simp) | (refine Reg.skip rfl rfl rfl ?_; go_simp))
            have hfc := a_fence l L' F' w14 (HLA9.out.keptNo (HKd.out.trans' HK14.out))
            have hbx := HB10.out.kept (HKq.out.trans' HK14.out) (fun x => x)
            have hby := HBD.out.kept (HKq.out.trans' HK14.out) (fun x => x)
            have HKF := Lib.hid (HKW9.out.trans' (HKd.out.trans' HK14.out))
            by_cases hf : L'.fence = fe
            · rw [hf] at hfc
              have HFC := Lib.hid hfc
              clear hfc hf hbx hby
              refine Reg.act rfl ?_
              go_wp2_with fail
              refine HFC.out.mono ?_
              rintro e w15 ⟨rfl, rfl⟩
              go_wp2_with fail
              (refine ⟨?anew, ?_⟩; case anew => ((repeat (refine Reg.anew_cons rfl rfl (fun _ => by go_simp) ?_)); exact Reg.anew_nil))
              repeat (first | (refine Reg.look rfl rfl rfl (by go_simp; rfl) rfl ?_; go_simp) | (refine Reg.skip rfl rfl rfl ?_; go_simp))
              refine Reg.act rfl ?_
              refine wpList_skip (by first | rfl | (go_simp; done) | decide) ?_
              go_wp2_with fail
              refine ⟨?anew, ?_⟩
              case anew =>
                (repeat (first | (refine Reg.anew_cons rfl rfl (fun h => absurd (show false = true from h) Bool.false_ne_true) ?_) | (refine Reg.anew_cons rfl rfl (fun _ => by go_simp) ?_)))
                exact Reg.anew_nil
              repeat (first | (refine Reg.look rfl rfl rfl (by go_simp; rfl) rfl ?_; go_simp) | (refine Reg.skip rfl rfl rfl ?_; go_simp))
              (refine Reg.done ?_; simp only [Exit.then])
              go_wp2_with fail
              go_ret
              exact ⟨rfl, HKF.out⟩
            · have h5 := E5.out
              rw [HFEQ.out] at h5
              rcases h5 with h5 | ⟨h5, h6, h7⟩
              · exact absurd h5 hf
              · subst h6
                rw [h7] at hfc hf
                have hfb : (c.epoch == fe) = false := beq_eq_false_iff_ne.2 hf
                have z0 : w14.cell? ⟨x, 0, none⟩ = some _ := Blk.cell hbx rfl
                have z1 : w14.cell? ⟨x, 1, none⟩ = some _ := Blk.cell hbx rfl
                have y0 : w14.cell? ⟨y, 0, none⟩ = some _ := Blk.cell hby rfl
                rw [h5] at z0
                have HFC := Lib.hid hfc
                clear hfc hbx hby h5 h7 hf
                refine Reg.act rfl ?_
                go_wp2_with fail
                refine HFC.out.mono ?_
                rintro e w15 ⟨rfl, rfl⟩
                go_wp2_with fail
                (refine ⟨?anew, ?_⟩; case anew => ((repeat (refine Reg.anew_cons rfl rfl (fun _ => by go_simp) ?_)); exact Reg.anew_nil))
                repeat (first | (refine Reg.look rfl rfl rfl (by go_simp; rfl) rfl ?_; go_simp) | (refine Reg.skip rfl rfl rfl ?_; go_simp))
                refine Reg.act rfl ?_
                go_wp2_with fail
                refine HFC.out.mono ?_
                rintro e w16 ⟨rfl, rfl⟩
                go_wp2_with fail
                (refine ⟨?anew, ?_⟩; case anew => ((repeat (refine Reg.anew_cons rfl rfl (fun _ => by go_simp) ?_)); exact Reg.anew_nil))
                repeat (first | (refine Reg.look rfl rfl rfl (by go_simp; rfl) rfl ?_; go_simp) | (refine Reg.skip rfl rfl rfl ?_; go_simp))
                (refine Reg.done ?_; simp only [Exit.then])
                go_wp2_with fail
                go_ret
                exact ⟨rfl, HKF.out⟩
theorem ledgerRefusedUpto_holds : Rows.LedgerRefusedUptoSaid := ledgerRefusedUpto_of ledgerRefusedUpto_walk
#print axioms ledgerRefusedUpto_holds
end Go.Proofs.Ytbkjfppkfcppnaa
