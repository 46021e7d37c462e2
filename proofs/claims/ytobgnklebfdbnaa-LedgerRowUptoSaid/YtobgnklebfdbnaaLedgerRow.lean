/-
  Whatever commands come: the operations are a row, the fence never falls, what is lost stays told: LedgerRow answers true for every input of bulk at most 1048576. (Said is false BY SIZE.)
-/
import Derived.Test.YtobgnklebfdbnaaAwk12
import Derived.Test.YtobgnklebfdbnaaSml
import Derived.Test.YtobgnklebfdbnaaOwnC
import Derived.Test.YtobgnklebfdbnaaRow
import Derived.Test.YtobgnklebfdbnaaDeed4
import Derived.Test.YtobgnklebfdbnaaFLedgerRow
namespace Go.Proofs.Ytobgnklebfdbnaa
open Go.RowKit Go.ChangeShapes Go.WideShapes Go.ChangeAt

theorem run_spot1 (w : World) (a b : Value) : (Instr.field 40 (.agg #[a, b]) 1).run Try.prog w = .ok b w := by kernel_rfl
theorem cap_le {α : Type} {E : Rp α} {w : World} {S : Nat → Prop} {A : Option Addr} {n c : Nat} {l : List α} (h : E.slice.R w S [.slice A n c] l) : l.length ≤ c := by
  obtain ⟨A', c', he, h1, _⟩ := h
  simp only [List.cons.injEq, Value.slice.injEq, and_true] at he
  omega
theorem last_epoch_le {B : Nat} {L : LV} (h : OkL B L) : ¬ L.fence < (lastL L).2 := by
  unfold lastL
  cases hl : L.ops.getLast? with
  | none => have := h.fence0.1; simp only; omega
  | some o => have := h.fence o (List.mem_of_getLast? hl); simp only; omega
set_option maxRecDepth 100000 in
set_option maxHeartbeats 40000000 in
theorem ledgerRowUpto_walk : LedgerRowUptoWalk := by
  intro W v0 q v1 r v2 script h0 h1 h2 hμ
  obtain ⟨hv0, _⟩ := h0
  obtain ⟨hv1, _⟩ := h1
  obtain ⟨As, cas, hv2, _⟩ := id h2
  simp only [List.cons.injEq, and_true] at hv0 hv1 hv2
  subst hv0 hv1 hv2
  have hμ2 : Rp.cmd.slice.μ script ≤ 1048576 := by omega
  have hsm := cmds_small hμ2
  have hgs : ∀ w, Kp No W w → Calls Try.prog 13 #[.slice As script.length cas] w fun e w' => GreatS script e ∧ Kp No w w' := fun w hk => h_great12S script As cas w _ (Rp.cmd.slice.keptNo h2 hk) hsm
  have HSCR := Lib.hid h2
  have HGS := Lib.hid hgs
  clear h2 hμ hμ2 hsm hgs
  by_cases hnew : newP q r
  case neg =>
    have hnb := a_new_bad q r W hnew
    have HNB := Lib.hid hnb
    clear hnb hnew
    go_enter Try.func3, Try.ntmps3
    go_wp2_with fail
    refine HNB.out.mono ?_
    rintro e w1 ⟨rfl, rfl⟩
    go_wp2_with fail
    refine (h_awake12 w1).mono ?_
    rintro e w2 ⟨rfl, hk2⟩
    have HK2 := Lib.hid hk2
    clear hk2
    go_wp2_with fail
    refine (h_awake12 w2).mono ?_
    rintro e wz ⟨rfl, hkz⟩
    have HKZ := Lib.hid (HK2.out.trans' hkz)
    clear hkz
    go_wp2_with fail
    go_ret
    exact ⟨rfl, HKZ.out⟩
  case pos =>
    have hnb := a_new q r W hnew
    have HNB := Lib.hid hnb
    have HOK0 := Lib.hid (newL_ok hnew)
    clear hnb hnew
    go_enter Try.func3, Try.ntmps3
    go_wp2_with fail
    refine HNB.out.mono ?_
    rintro e w1 ⟨l, F, rfl, hl, hF, hk1⟩
    have HS1 : Hid (Side W w1 l (newL q r) []) := Lib.hid (Side.start hl hF hk1)
    clear hl hF hk1 HNB
    go_wp2_with fail
    refine (h_awake12 w1).mono ?_
    rintro e w2 ⟨rfl, hk2⟩
    have HS2 := Lib.hid (HS1.out.keptNo hk2)
    clear hk2 HS1
    go_wp2_with fail
    refine (HGS.out w2 HS2.out.kp).mono ?_
    rintro e w3 ⟨⟨b, rfl, hsm⟩, hk3⟩
    have HSM := Lib.hid hsm
    have HS3 := Lib.hid (HS2.out.keptNo hk3)
    clear hk3 HS2 hsm HGS
    cases b
    case true =>
      clear HSM
      go_wp2_with fail
      refine (h_awake12 w3).mono ?_
      rintro e wz ⟨rfl, hkz⟩
      have HKZ := Lib.hid (HS3.out.kp.trans' hkz)
      clear hkz
      go_wp2_with fail
      go_ret
      exact ⟨rfl, HKZ.out⟩
    obtain ⟨hsn, hs2⟩ := HSM.out (by first | rfl | trivial)
    have HS200 := Lib.hid hs2
    have hn200 : (script.length : Int) ≤ 200 := by omega
    clear HSM hs2
    go_wp2_with fail
    go_loopw [39] (fun iv wr => ∃ (i : Nat) (L : LV), i ≤ script.length ∧ iv = .int .i64 (i : Int) ∧ Hid (OkL (80 * i) L) ∧ Hid (Side W wr l L [])) (fun iv _ => script.length - (intOf iv).toNat)
    case atStart => exact ⟨0, newL q r, Nat.zero_le _, rfl, HOK0, HS3⟩
    case round =>
      clear HS3 HOK0
      rename_i q1 q2 q3 yQ yK yH
      obtain ⟨i, L, hi, rfl, HOKL, HS⟩ := hrel
      by_cases hlt : i < script.length
      · revert yQ
        as_aux_lemma =>
          intros
          have hli : (i : Int) < (script.length : Int) := by omega
          obtain ⟨c, hoi⟩ : ∃ o, script[i]? = some o := ⟨_, List.getElem?_eq_getElem hlt⟩
          obtain ⟨ad, A', c', B', d', rfl, _, hcell, hon, hoh, hoo⟩ := Rp.at_cmd (Rp.cmd.slice.keptNo HSCR.out HS.out.kp) hoi
          obtain ⟨z0, z1, z2, z3, z4, z5, z6, z7, z8, z9, z10, z11, z12, z13, z14, z15⟩ := cmd_cells hcell
          have hso := HS200.out c (List.mem_of_getElem? hoi)
          have how := fun w (hk : Kp No wr w) => r_own c A' B' c' d' w _ hon (Rp.str.slice.keptNo hoh hk) (Rp.opl.slice.keptNo hoo hk) (by have := hso.1; omega) (by have := hso.2.1; omega) (fun o ho => by have := hso.2.2 o ho; omega)
          have hok2 := (apply_ok HOKL.out c).mono (show 80 * i + 80 ≤ 80 * (i + 1) by omega)
          have hwent := apply_went c L
          obtain ⟨⟨⟨p0, p1, p2⟩, L'⟩, hP⟩ : ∃ P, applyL c L = P := ⟨_, rfl⟩
          rw [hP] at hok2 hwent
          obtain ⟨F, hla, hF0, _⟩ := HS.out.ex
          have hap : ∀ (A3 B3 : Option Addr) (c3 d3 : Nat) (S : Nat → Prop) (w : World), Kp No wr w → Rp.str.slice.R w S [.slice A3 c.op.hashes.length c3] c.op.hashes → Rp.opl.slice.R w S [.slice B3 c.ops.length d3] c.ops → (∀ k, S k → wr.heap.size ≤ k) →
              Calls Try.prog 17 #[.pointer (some ⟨l, 0, none⟩), cmdV c (.slice A3 c.op.hashes.length c3) (.slice B3 c.ops.length d3)] w fun x w' => x = .returned (doneV (p0, p1, p2)) ∧ ∃ F', LAt w' l L' F' ∧ Upd F w w' F' := by
            intro A3 B3 c3 d3 S w hk hr1 hr2 hS
            have h := a_apply c A3 B3 c3 d3 S (80 * i) l L F w (hla.keptNo hk) HOKL.out (by omega) hr1 hr2 (fun k hk _ hF => by have := hla.lt k hF; have := hS k hk; omega) (bounds_I64 hon.2.2.2.1.2.2.2.2.2.2.2) (by have := hso.1; omega) (by have := hso.2.1; omega) (fun o ho => by have := hso.2.2 o ho; omega)
            rw [hP] at h
            exact h
          obtain ⟨⟨k, m, hkl, hlost, hops⟩, hfence, _⟩ := hwent
          have hlen := HOKL.out.len
          have hlostl := HOKL.out.lost
          have hlen2 := hok2.len
          have hlostl2 := hok2.lost
          have HLOST := Lib.hid hlost
          have HOPS := Lib.hid hops
          have hgl : L'.lost.length = L.lost.length + (L.ops.length - k) := by rw [hlost, List.length_append, List.length_map, List.length_drop]
          have HGL := Lib.hid hgl
          have hle5 : L.lost.length ≤ L'.lost.length := by omega
          have hkept : (L.ops.length : Int) - ((L'.lost.length : Int) - (L.lost.length : Int)) = (k : Int) := by omega
          clear hgl
          have hnl : k ≤ L'.ops.length := by rw [hops, List.length_append, List.length_take]; omega
          unfold cmdV at how hap
          have HOW := Lib.hid how
          have HAP := Lib.hid hap
          have HOK2 := Lib.hid hok2
          have HLA := Lib.hid hla
          have HF0 := Lib.hid hF0
          have HKW := Lib.hid HS.out.kp
          obtain ⟨wa, hwa⟩ : ∃ wa, wr.alloc (.cells (cmdC c (.slice A' c.op.hashes.length c') (.slice B' c.ops.length d')).toArray 36) = wa := ⟨_, rfl⟩
          have hka : Kp No wr wa := by rw [← hwa]; exact (Kp.refl _ _).alloc _
          have hba : Blk wa wr.heap.size 36 (cmdC c (.slice A' c.op.hashes.length c') (.slice B' c.ops.length d')) := by rw [← hwa]; exact Blk.new wr _ _
          unfold cmdC at hwa hba
          have HKA := Lib.hid hka
          have HBA := Lib.hid hba
          have HHL := Lib.hid HOKL.out.hashes
          have HHLL := Lib.hid HOKL.out.hashesLost
          have HHL2 := Lib.hid hok2.hashes
          have HHLL2 := Lib.hid hok2.hashesLost
          have hrow := hok2.row
          have HROW := Lib.hid hrow
          have HLF : Hid (∀ k, F k → k < wr.heap.size) := Lib.hid (fun k hk => hla.lt k hk)
          have hlastle := last_epoch_le hok2
          clear hcell hon hoh hoo hso how hap hok2 hla hF0 hlost hops HS HOKL hka hba hrow
          obtain ⟨ck, ep, st, ⟨on, oe, ok, os, oc, oq, onm2, osz, ohs⟩, an, ae, ops, tg⟩ := c
          simp only at *
          go_wp2_with fail
          clear z0 z1 z2 z3 z4 z5 z6 z7 z8 z9 z10 z11 z12 z13 z14 z15 hwa
          refine (a_fence l L F wa (HLA.out.keptNo HKA.out)).mono ?_
          rintro e w5 ⟨rfl, rfl⟩
          go_wp2_with fail
          refine (a_lost l L F w5 (HLA.out.keptNo HKA.out) (by omega) HHLL.out).mono ?_
          rintro e w6 ⟨A1, c1, rfl, hown1, hk6⟩
          have HR1 : Hid (Rp.opl.slice.R w6 (fun k => w5.heap.size ≤ k) [.slice A1 L.lost.length c1] L.lost) := Lib.hid (Rp.opl.slice.more hown1.readFrom (fun k hk => by rcases hk with hk | hk <;> exact hk))
          have HK6 := Lib.hid (HKA.out.trans' hk6)
          clear hown1
          go_wp2_with fail
          refine (a_ops l L F w6 (HLA.out.keptNo HK6.out) (by omega) HHL.out).mono ?_
          rintro e w7 ⟨A2, c2, rfl, hown2, hk7⟩
          have HR2 : Hid (Rp.opl.slice.R w7 (fun k => w5.heap.size ≤ k) [.slice A2 L.ops.length c2] L.ops) := Lib.hid (Rp.opl.slice.more hown2.readFrom (fun k hk => by have := hk6.size; rcases hk with hk | hk <;> exact Nat.le_trans this hk))
          have HR1b := Lib.hid (Rp.opl.slice.keptNo HR1.out hk7)
          have HK7 := Lib.hid (HK6.out.trans' hk7)
          have hb7 := HBA.out.kept (hk6.trans' hk7) (fun x => x)
          have HWA := Lib.hid HKA.out.size
          clear hown2 hk6 hk7 HR1 HBA HK6 HKA
          obtain ⟨x, hx⟩ : ∃ x, wr.heap.size = x := ⟨_, rfl⟩
          have HX := Lib.hid hx
          rw [hx] at hb7
          try rw [hx]
          have z0 : w7.cell? ⟨x, 0, none⟩ = some _ := Blk.cell hb7 rfl
          have z1 : w7.cell? ⟨x, 1, none⟩ = some _ := Blk.cell hb7 rfl
          have z2 : w7.cell? ⟨x, 2, none⟩ = some _ := Blk.cell hb7 rfl
          have z3 : w7.cell? ⟨x, 3, none⟩ = some _ := Blk.cell hb7 rfl
          have z4 : w7.cell? ⟨x, 4, none⟩ = some _ := Blk.cell hb7 rfl
          have z5 : w7.cell? ⟨x, 5, none⟩ = some _ := Blk.cell hb7 rfl
          have z6 : w7.cell? ⟨x, 6, none⟩ = some _ := Blk.cell hb7 rfl
          have z7 : w7.cell? ⟨x, 7, none⟩ = some _ := Blk.cell hb7 rfl
          have z8 : w7.cell? ⟨x, 8, none⟩ = some _ := Blk.cell hb7 rfl
          have z9 : w7.cell? ⟨x, 9, none⟩ = some _ := Blk.cell hb7 rfl
          have z10 : w7.cell? ⟨x, 10, none⟩ = some _ := Blk.cell hb7 rfl
          have z11 : w7.cell? ⟨x, 11, none⟩ = some _ := Blk.cell hb7 rfl
          have z12 : w7.cell? ⟨x, 12, none⟩ = some _ := Blk.cell hb7 rfl
          have z13 : w7.cell? ⟨x, 13, none⟩ = some _ := Blk.cell hb7 rfl
          have z14 : w7.cell? ⟨x, 14, none⟩ = some _ := Blk.cell hb7 rfl
          have z15 : w7.cell? ⟨x, 15, none⟩ = some _ := Blk.cell hb7 rfl
          clear hb7 hx
          go_wp2_with fail
          clear z0 z1 z2 z3 z4 z5 z6 z7 z8 z9 z10 z11 z12 z13 z14 z15
          refine (HOW.out w7 HK7.out).mono ?_
          rintro e w8 ⟨A3, c3, B3, d3, rfl, hr1, hr2, hk8⟩
          have hA := HAP.out A3 B3 c3 d3 _ w8 (HK7.out.trans' hk8) hr1 hr2 (fun k hk => Nat.le_trans HK7.out.size hk)
          have HA := Lib.hid hA
          have HR1c := Lib.hid (Rp.opl.slice.keptNo HR1b.out hk8)
          have HR2c := Lib.hid (Rp.opl.slice.keptNo HR2.out hk8)
          have HK8 := Lib.hid (HK7.out.trans' hk8)
          clear hA hr1 hr2 hk8 HR1b HR2 HK7 HOW HAP
          go_wp2_with fail
          refine HA.out.mono ?_
          rintro e w9 ⟨rfl, F', hla9, hu9⟩
          have HR1d := Lib.hid (Rp.opl.slice.kept HR1c.out hu9.kp (fun k hk _ hF => by have := HLF.out k hF; have := HWA.out; omega))
          have HR2d := Lib.hid (Rp.opl.slice.kept HR2c.out hu9.kp (fun k hk _ hF => by have := HLF.out k hF; have := HWA.out; omega))
          have HKW9 := Lib.hid ((HKW.out.trans' HK8.out).trans hu9.kp (fun k hk hF => by have := HF0.out k hF; omega))
          have HF9 : Hid (∀ k, F' k → W.heap.size ≤ k) := Lib.hid (fun k hk => by
            rcases hu9.foot k hk with h | h
            · exact HF0.out k h
            · have := (HKW.out.trans' HK8.out).size; omega)
          have HLA9 := Lib.hid hla9
          unfold doneV
          clear hla9 hu9 HA HR1c HR2c HK8 HKW HLA
          go_wp2_with fail
          refine (a_ops l L' F' w9 HLA9.out (by omega) HHL2.out).mono ?_
          rintro e w10 ⟨A4, c4, rfl, hown4, hk10⟩
          have HR4 : Hid (Rp.opl.slice.R w10 (fun k => w9.heap.size ≤ k) [.slice A4 L'.ops.length c4] L'.ops) := Lib.hid (Rp.opl.slice.more hown4.readFrom (fun k hk => by rcases hk with hk | hk <;> exact hk))
          have HK10 := Lib.hid hk10
          clear hown4 hk10
          go_wp2_with fail
          refine (a_lost l L' F' w10 (HLA9.out.keptNo HK10.out) (by omega) HHLL2.out).mono ?_
          rintro e w11 ⟨A5, c5, rfl, hown5, hk11⟩
          have HR5 : Hid (Rp.opl.slice.R w11 (fun k => w9.heap.size ≤ k) [.slice A5 L'.lost.length c5] L'.lost) := Lib.hid (Rp.opl.slice.more hown5.readFrom (fun k hk => by have := HK10.out.size; rcases hk with hk | hk <;> exact Nat.le_trans this hk))
          have HR4b := Lib.hid (Rp.opl.slice.keptNo HR4.out hk11)
          have HK11 := Lib.hid (HK10.out.trans' hk11)
          clear hown5 hk11 HR4 HK10
          have hrw := r_row 0 0 L'.ops A4 c4 w11 _ HR4b.out (by omega) HHL2.out
          have hrt : rowB 0 0 L'.ops = true := by unfold rowB; rw [HROW.out]; rfl
          rw [hrt] at hrw
          have HRW := Lib.hid hrw
          clear hrw hrt
          go_wp2_with fail
          refine HRW.out.mono ?_
          rintro e w12 ⟨rfl, hk12⟩
          have HK12 := Lib.hid (HK11.out.trans' hk12)
          have HR4c := Lib.hid (Rp.opl.slice.keptNo HR4b.out hk12)
          have HR5c := Lib.hid (Rp.opl.slice.keptNo HR5.out hk12)
          clear hk12 HRW HR4b HR5 HK11
          go_wp2_with fail
          refine (a_fence l L' F' w12 (HLA9.out.keptNo HK12.out)).mono ?_
          rintro e w13 ⟨rfl, rfl⟩
          have hfn : ¬ L'.fence < L.fence := by omega
          go_wp2_with fail
          refine (a_fence l L' F' w13 (HLA9.out.keptNo HK12.out)).mono ?_
          rintro e w14 ⟨rfl, rfl⟩
          go_wp2_with fail
          refine (a_last l L' F' w14 (HLA9.out.keptNo HK12.out) (by omega)).mono ?_
          rintro e w15 ⟨rfl, hk15⟩
          have HK15 := Lib.hid (HK12.out.trans' hk15)
          have HR4d := Lib.hid (Rp.opl.slice.keptNo HR4c.out hk15)
          have HR5d := Lib.hid (Rp.opl.slice.keptNo HR5c.out hk15)
          have htk : L'.lost.take L.lost.length = L.lost := by rw [HLOST.out]; exact List.take_left' rfl
          have htk2 : L'.ops.take k = L.ops.take k := by
            rw [HOPS.out]
            exact List.take_left' (by rw [List.length_take]; omega)
          have hh5 := Rp.head HR5d.out hle5
          rw [htk] at hh5
          have hsa := r_sameops L.lost L.lost A5 A1 c5 c1 w15 _ _ hh5 (Rp.opl.slice.keptNo HR1d.out HK15.out)
          rw [sameOps_iff.2 rfl] at hsa
          have hc5 := cap_le HR5d.out
          have hc4 := cap_le HR4d.out
          have hc2 := cap_le HR2d.out
          have HSA := Lib.hid hsa
          have HTK2 := Lib.hid htk2
          have hll : ¬ (L'.lost.length : Int) < (L.lost.length : Int) := by omega
          have hc5b : L.lost.length ≤ c5 := by omega
          have hfd := run_spot1 w15 (.int .i64 (lastL L').1) (.int .i64 (lastL L').2)
          clear hk15 HK12 HR4c HR5c htk hh5 hsa htk2
          go_wp2_with fail
          clear hfd
          refine HSA.out.mono ?_
          rintro e w16 ⟨rfl, hk16⟩
          have HK16 := Lib.hid (HK15.out.trans' hk16)
          have HR4e := Lib.hid (Rp.opl.slice.keptNo HR4d.out hk16)
          have HR5e := Lib.hid (Rp.opl.slice.keptNo HR5d.out hk16)
          have HR2e := Lib.hid (Rp.opl.slice.keptNo HR2d.out HK16.out)
          obtain ⟨T, hT⟩ : ∃ T, L.ops.take k = T := ⟨_, rfl⟩
          have hTl : T.length = k := by rw [← hT, List.length_take]; omega
          have hsb : ∀ wd, Kp No w16 wd → Calls Try.prog 21 #[.slice A4 k c4, .slice A2 k c2] wd fun x w' => x = .returned (.bool true) ∧ Kp No wd w' := fun wd hk => by
            have h4 := Rp.head (Rp.opl.slice.keptNo HR4e.out hk) hnl
            have h2 := Rp.head (Rp.opl.slice.keptNo HR2e.out hk) hkl
            rw [HTK2.out] at h4
            rw [hT] at h4 h2
            have h := r_sameops T T A4 A2 c4 c2 wd _ _ h4 h2
            rw [sameOps_iff.2 rfl, hTl] at h
            exact h
          have HSB := Lib.hid hsb
          have hnn : ¬ (L'.ops.length : Int) < (k : Int) := by omega
          have hnnb : decide (L'.ops.length < k) = false := decide_eq_false (by omega)
          have hk0 : decide ((k : Int) < 0) = false := decide_eq_false (by omega)
          have hk4 : k ≤ c4 := by omega
          have hk2 : k ≤ c2 := by omega
          clear hk16 HSA HR4d HR5d HK15 hT hTl hsb
          go_wp2_with fail
          refine Reg.wp_region_plan [⟨0, false, []⟩, ⟨1, false, []⟩, ⟨2, false, []⟩, ⟨3, false, []⟩, ⟨4, false, []⟩, ⟨5, false, []⟩, ⟨6, false, []⟩, ⟨7, false, []⟩, ⟨8, false, []⟩, ⟨9, false, []⟩, ⟨10, false, []⟩, ⟨11, false, []⟩, ⟨12, false, []⟩, ⟨13, false, []⟩, ⟨14, false, []⟩, ⟨15, true, []⟩, ⟨16, false, []⟩, ⟨17, false, []⟩] rfl (by kernel_rfl) ?_
          repeat (first | (refine Reg.look rfl rfl rfl (by go_simp; rfl) rfl ?_; go_simp) | (refine Reg.skip rfl rfl rfl ?_; go_simp))
          refine Reg.act rfl ?_
          go_wp2_with fail
          refine (HSB.out _ ((Kp.refl _ _).drew)).mono ?_
          rintro e w17 ⟨rfl, hk17⟩
          have hkd : Kp No w16 w17 := ((Kp.refl No w16).drew).trans' hk17
          have HK17 := Lib.hid (HK16.out.trans' hkd)
          have HR2f := Lib.hid (Rp.opl.slice.keptNo HR2e.out hkd)
          have HR5f := Lib.hid (Rp.opl.slice.keptNo HR5e.out hkd)
          clear hk17 hkd HSB HR2e HR4e HR5e HK16 hnnb hk0 hnn hkept
          go_wp2_with fail
          (refine ⟨?anew, ?_⟩; case anew => ((repeat (refine Reg.anew_cons rfl rfl (fun _ => by go_simp) ?_)); exact Reg.anew_nil))
          repeat (first | (refine Reg.look rfl rfl rfl (by go_simp; rfl) rfl ?_; go_simp) | (refine Reg.skip rfl rfl rfl ?_; go_simp))
          (refine Reg.done ?_; simp only [Exit.then])
          by_cases hm0 : L.ops.length = k
          · have hge : L'.lost.length = L.lost.length := by have := HGL.out; omega
            rw [hge] at hc5 ⊢
            have HKE := Lib.hid HK17.out
            clear hge hm0 HR2f HR5f HGL hle5 hll hlostl2 HK17
            rcases A5 with _ | ad5
            · go_wp2_with fail
              go_loopw [122] (fun iv wv => iv = .int .i64 0 ∧ Hid (Kp No w9 wv)) (fun _ _ => 0)
              case atStart => exact ⟨rfl, HKE⟩
              case round =>
                obtain ⟨rfl, HKV⟩ := hrel
                go_wp2_with fail
                go_wp2_with fail
                go_roundw
                case rel => exact ⟨i + 1, L', by omega, by go_num, HOK2, Lib.hid (Side.start (HLA9.out.keptNo HKV.out) (fun k hk => HF9.out k hk) (HKW9.out.trans' HKV.out))⟩
                case measure => simp [intOf]; omega
            · by_cases hcb : c5 = L.lost.length
              · subst hcb
                go_wp2_with fail
                go_loopw [122] (fun iv wv => iv = .int .i64 0 ∧ Hid (Kp No w9 wv)) (fun _ _ => 0)
                case atStart => exact ⟨rfl, HKE⟩
                case round =>
                  obtain ⟨rfl, HKV⟩ := hrel
                  go_wp2_with fail
                  go_wp2_with fail
                  go_roundw
                  case rel => exact ⟨i + 1, L', by omega, by go_num, HOK2, Lib.hid (Side.start (HLA9.out.keptNo HKV.out) (fun k hk => HF9.out k hk) (HKW9.out.trans' HKV.out))⟩
                  case measure => simp [intOf]; omega
              · have hcb2 : ¬ L.lost.length = c5 := fun e => hcb e.symm
                go_wp2_with fail
                go_loopw [122] (fun iv wv => iv = .int .i64 0 ∧ Hid (Kp No w9 wv)) (fun _ _ => 0)
                case atStart => exact ⟨rfl, HKE⟩
                case round =>
                  obtain ⟨rfl, HKV⟩ := hrel
                  go_wp2_with fail
                  go_wp2_with fail
                  go_roundw
                  case rel => exact ⟨i + 1, L', by omega, by go_num, HOK2, Lib.hid (Side.start (HLA9.out.keptNo HKV.out) (fun k hk => HF9.out k hk) (HKW9.out.trans' HKV.out))⟩
                  case measure => simp [intOf]; omega
          · obtain ⟨m, hm⟩ : ∃ m, L.ops.length - k = m := ⟨_, rfl⟩
            have hge : L'.lost.length = L.lost.length + m := by have := HGL.out; omega
            have hd5 := HR5f.out
            have hm1 : 0 < m := by omega
            obtain ⟨ad5, hA5⟩ : ∃ ad5, A5 = some ad5 := by
              obtain ⟨ad5, _, _, h, _⟩ := Rp.at_opl hd5 (i := 0) (List.getElem?_eq_getElem (by omega))
              exact ⟨ad5, h⟩
            obtain ⟨ad2, hA2⟩ : ∃ ad2, A2 = some ad2 := by
              obtain ⟨ad2, _, _, h, _⟩ := Rp.at_opl HR2f.out (i := 0) (List.getElem?_eq_getElem (by omega))
              exact ⟨ad2, h⟩
            subst hA5 hA2
            have hcut : Rp.opl.slice.R w17 (fun k => w9.heap.size ≤ k) [.slice (some (ad5.add (L.lost.length * 9))) (L'.lost.drop L.lost.length).length (c5 - L.lost.length)] (L'.lost.drop L.lost.length) := Rp.cut hd5 hle5
            have HCUT := Lib.hid hcut
            have HHM := Lib.hid hm
            rw [hge] at hc5 ⊢
            have hcb : ¬ c5 = L.lost.length := by omega
            have hcb2 : ¬ L.lost.length = c5 := by omega
            clear hge hm0 hd5 hcut hm HGL hle5 hll hlostl2
            go_wp2_with fail
            go_loopw [122] (fun iv wv => ∃ j : Nat, j ≤ m ∧ iv = .int .i64 (j : Int) ∧ Hid (Kp No w17 wv)) (fun iv _ => m - (intOf iv).toNat)
            case atStart => exact ⟨0, Nat.zero_le _, rfl, Lib.hid (Kp.refl _ _)⟩
            case round =>
              obtain ⟨j, hj, rfl, HKV⟩ := hrel
              by_cases hjm : j < m
              · obtain ⟨q2, hq2⟩ : ∃ q2 : Nat, k + j = q2 := ⟨_, rfl⟩
                obtain ⟨y, hy⟩ : ∃ y, L.ops[q2]? = some y := ⟨_, List.getElem?_eq_getElem (by have := HHM.out; omega)⟩
                have hgy : (L'.lost.drop L.lost.length)[j]? = some y.stripped := by
                  rw [HLOST.out, List.drop_left' rfl, List.getElem?_map, List.getElem?_drop, hq2, hy]; rfl
                obtain ⟨ad2', A6, c6, hA2, _, hcy, _, _⟩ := Rp.at_opl (Rp.opl.slice.keptNo HR2f.out HKV.out) hy
                obtain ⟨adg, A7, c7, hA7, _, hcg, _, _⟩ := Rp.at_opl (Rp.opl.slice.keptNo HCUT.out HKV.out) hgy
                injection hA2 with hA2
                injection hA7 with hA7
                subst hA2 hA7
                obtain ⟨y0, y1, y2, y3, y4, y5, y6, y7, y8⟩ := opl_cells hcy
                obtain ⟨g0, g1, g2, g3, g4, g5, g6, g7, g8⟩ := opl_cells hcg
                have hyw : (ad2.add (q2 * 9)).block < wr.heap.size := lt_of_cell y0
                have hqi : (k : Int) + (j : Int) = (q2 : Int) := by omega
                have hql : (q2 : Int) < (L.ops.length : Int) := by have := HHM.out; omega
                have hq80 : q2 ≤ 80 := by omega
                have hjmi : (j : Int) < (m : Int) := by omega
                clear hy hgy hcy hcg hq2
                obtain ⟨yn, ye, yk, ys, yc, yq, ynm, ysz, yhs⟩ := y
                simp only [OpL.stripped, List.length_nil] at *
                go_wp2_with fail
                go_roundw
                case rel => exact ⟨j + 1, by omega, by go_num, Lib.hid ((HKV.out.alloc _).alloc _)⟩
                case measure => simp [intOf]; omega
              · obtain rfl : j = m := by omega
                go_wp2_with fail
                go_wp2_with fail
                go_roundw
                case rel => exact ⟨i + 1, L', by omega, by go_num, HOK2, Lib.hid (Side.start (HLA9.out.keptNo (HK17.out.trans' HKV.out)) (fun k hk => HF9.out k hk) (HKW9.out.trans' (HK17.out.trans' HKV.out)))⟩
                case measure => simp [intOf]; omega
      · obtain rfl : i = script.length := by omega
        go_wp2_with fail
        go_ret
        exact ⟨rfl, HS.out.kp⟩
theorem ledgerRowUpto_holds : Rows.LedgerRowUptoSaid := ledgerRowUpto_of ledgerRowUpto_walk
#print axioms ledgerRowUpto_holds
end Go.Proofs.Ytobgnklebfdbnaa
