/-
  The document's model: See.
-/
import Derived.Test.YtamfgmlhopjppaaGL
import Derived.Test.YtamfgmlhopjppaaRow
import Derived.Test.YtamfgmlhopjppaaGE
import Derived.Test.YtamfgmlhopjppaaGK
import Derived.BigQuiet
namespace Go.Proofs.Ytamfgmlhopjppaa
open Go.RowKit Go.ChangeShapes Go.WideShapes Go.ChangeAt

theorem run_store_spot26 (w : World) (g : Nat) (a b c d : Int) (h : Blk w g 37 [.int .i64 a, .int .i64 b]) : (Instr.storeAt 37 (.pointer (some ⟨g, 0, none⟩)) (.agg #[.int .i64 c, .int .i64 d])).run Try.prog w = .ok () ((w.setCell ⟨g, 0, none⟩ (.int .i64 c)).setCell ⟨g, 1, none⟩ (.int .i64 d)) := by
  have y0 : w.cell? ⟨g, 0, none⟩ = some _ := Blk.cell h rfl
  have y1 : w.cell? ⟨g, 1, none⟩ = some _ := Blk.cell h rfl
  have g0 := Blk.fr h 0
  have g1 := Blk.fr h 1
  clear h
  go_simp
theorem el_line26 : Elem Try.prog 28 76 11 112 := Elem.of Try.underlying28 (z := .agg #[.int .i64 0, .int .i64 0, .int .i64 0, .int .i64 0, .int .i64 0, .int .i64 0, .string ByteArray.empty, .int .i64 0, .slice none 0 0, .int .i64 0, .int .i64 0]) (by kernel_rfl) rfl (by decide)
theorem Rp.line_one {w : World} : ∀ cs a S', Rp.line.R w S' cs a → ∀ u ∈ cs, u.oneCell' = true := by
  rintro cs a S' ⟨hv, rfl, _, ⟨A1, c1, e1, _⟩⟩ u hu
  simp only [List.cons.injEq, and_true] at e1
  subst e1
  simp only [LineL.cells, OpL.cells, List.mem_cons, List.mem_append, List.not_mem_nil, or_false] at hu
  rcases hu with (rfl | rfl | rfl | rfl | rfl | rfl | rfl | rfl | rfl) | (rfl | rfl) <;> rfl
theorem line_lit (w : World) (o : LineL) (hv : Value) (S : Nat → Prop) (hS : S w.heap.size) (hn : o.nums) (hr : Rp.str.slice.R w S [hv] o.op.hashes) :
    Rp.line.slice.R (w.alloc (.cells (o.cells hv).toArray 76)) S [.slice (some ⟨w.heap.size, 0, none⟩) 1 1] [o] := by
  refine ⟨_, _, rfl, Nat.le_refl _, by unfold maxLen; omega, fun _ => ⟨_, rfl, hS, fun i a hi => ?_⟩⟩
  obtain rfl : i = 0 := by have := (List.getElem?_eq_some_iff.1 hi).1; simp at this; exact this
  injection hi with hi
  subst hi
  refine ⟨o.cells hv, fun j u hu => ?_, hv, rfl, hn, Rp.str.slice.keptNo hr ((Kp.refl _ _).alloc _)⟩
  rw [Addr.add_lit, Addr.add_lit]
  have hb : Blk (w.alloc (.cells (o.cells hv).toArray 76)) w.heap.size 76 (o.cells hv) := Blk.new w (o.cells hv) _
  have h2 := hb.cell hu
  simpa using h2
set_option maxRecDepth 100000 in
set_option maxHeartbeats 16000000 in
theorem r_see26 (l : List OpL) (A : Option Addr) (c : Nat) (SO : Nat → Prop) (r : Nat) (R : RV) (F : Nat → Prop) (w : World) (h : RMAt w r R F) (hl : Rp.opl.slice.R w SO [.slice A l.length c] l) (hso : ∀ k, SO k → k < w.heap.size ∧ ¬ F k) (hll : l.length ≤ 100000) (hsm : ∀ o ∈ l, o.hashes.length ≤ 1000000) (hrl : R.lines.length ≤ 800000) :
    Calls Try.prog 9 #[.pointer (some ⟨r, 0, none⟩), .slice A l.length c] w fun e w' => e = .returned (.int .i64 (seeR l R).1) ∧ ∃ F', RMAt w' r (seeR l R).2 F' ∧ Upd F w w' F' := by
  have hrow := r_row 0 0 l A c w SO hl (by omega) hsm
  obtain ⟨P, hP⟩ : ∃ P, seeR l R = P := ⟨_, rfl⟩
  rw [hP]
  obtain ⟨D, hD⟩ : ∃ D, linedL (0, 0) l = D := ⟨_, rfl⟩
  obtain ⟨B, hB⟩ : ∃ B, rowB 0 0 l = B := ⟨_, rfl⟩
  rw [hB] at hrow
  have HPB : Hid (P = if B = false then (3, R) else if D.any (clashR R.lines) = true then (200, R) else (0, { R with lines := addR R.lines D })) := Lib.hid (by rw [← hP]; unfold seeR; rw [hB, hD])
  have HDE := Lib.hid hD
  have HDL : Hid (D.length = l.length) := Lib.hid (by rw [← hD, linedL_length])
  have HPW : Hid (B = true → D.Pairwise (fun x y => x.place ≠ y.place)) := Lib.hid (fun e => by rw [← hD]; exact row_places (row_go (hB.trans e)))
  have HROW := Lib.hid hrow
  have HM := Lib.hid h
  have HL := Lib.hid hl
  have HSO := Lib.hid hso
  have HSM := Lib.hid hsm
  have HRL := Lib.hid hrl
  have hln : (l.length : Int) ≤ 100000 := by omega
  clear hrow hP hD hB h hl hso hsm hrl
  go_enter Try.func9, Try.ntmps9
  go_wp2_with fail
  refine HROW.out.mono ?_
  rintro e w1 ⟨rfl, hk1⟩
  have HK1 := Lib.hid hk1
  clear hk1 HROW
  cases B
  case false =>
    have hP : P = (3, R) := HPB.out
    subst hP
    go_wp2_with fail
    go_ret
    exact ⟨rfl, F, HM.out.keptNo HK1.out, HK1.out.any, fun k hk => .inl hk⟩
  case true =>
    have HPB : Hid (P = if D.any (clashR R.lines) = true then (200, R) else (0, { R with lines := addR R.lines D })) := Lib.hid HPB.out
    go_wp2_with fail
    go_loopw [5] (fun tv wr => (tv = .int .i64 0 ∧ wr = w1) ∨ (tv = .int .i64 1 ∧ Hid (∀ a ∈ D, clashR R.lines a = false) ∧ Hid (Kp No w wr)) ∨ (tv = .int .i64 2 ∧ Hid (∀ a ∈ D, clashR R.lines a = false) ∧ Hid (∃ F', RMAt wr r { R with lines := addR R.lines D } F' ∧ Upd F w wr F'))) (fun tv _ => 2 - (intOf tv).toNat)
    case atStart => exact .inl ⟨rfl, rfl⟩
    case round =>
      rcases hrel with ⟨rfl, rfl⟩ | ⟨rfl, HNC, HK2⟩ | ⟨rfl, HNC, HFIN⟩
      · obtain ⟨w1, rfl⟩ : ∃ v, v = wr := ⟨_, rfl⟩
        go_wp2_with fail
        obtain ⟨sp, hsp⟩ : ∃ v, w1.heap.size = v := ⟨_, rfl⟩
        obtain ⟨w2, hw2⟩ : ∃ v, w1.alloc (.cells #[.int .i64 0, .int .i64 0] 37) = v := ⟨_, rfl⟩
        have hk2 : Kp No w1 w2 := by rw [← hw2]; exact (Kp.refl _ _).alloc _
        have HB2 : Hid (Blk w2 sp 37 [.int .i64 (lastP (0, 0) (l.take 0)).1, .int .i64 (lastP (0, 0) (l.take 0)).2]) := Lib.hid (by rw [← hw2, ← hsp]; exact Blk.new w1 _ _)
        have HK2 := Lib.hid (HK1.out.trans' hk2)
        have HSW : Hid (w.heap.size ≤ sp) := Lib.hid (by rw [← hsp]; exact HK1.out.size)
        have HM2 := Lib.hid (HM.out.keptNo HK2.out)
        rw [hw2, hsp]
        clear hk2 hw2 hsp
        go_loopw [7] (fun iv wr => ∃ i : Nat, i ≤ l.length ∧ iv = .int .i64 (i : Int) ∧ Hid (Blk wr sp 37 [.int .i64 (lastP (0, 0) (l.take i)).1, .int .i64 (lastP (0, 0) (l.take i)).2]) ∧ Hid (∀ a ∈ D.take i, clashR R.lines a = false) ∧ Hid (Kp No w wr) ∧ Hid (RMAt wr r R F)) (fun iv _ => l.length - (intOf iv).toNat)
        case atStart => exact ⟨0, Nat.zero_le _, rfl, HB2, Lib.hid (fun a ha => by simp at ha), HK2, HM2⟩
        case round =>
          clear HB2 HK2 HM2
          obtain ⟨i, hi, rfl, HB2, HNC, HK2, HM2⟩ := hrel
          by_cases hlt : i < l.length
          case neg =>
            obtain rfl : i = l.length := by omega
            have HNA : Hid (∀ a ∈ D, clashR R.lines a = false) := Lib.hid (by
              have h := HNC.out
              rw [List.take_of_length_le (Nat.le_of_eq HDL.out)] at h
              exact h)
            clear hi hlt
            go_wp2_with fail
            go_roundw
            case rel => exact .inr (.inl ⟨by go_num, HNA, HK2⟩)
            case measure => simp [intOf]
          case pos =>
            have hli : (i : Int) < (l.length : Int) := by omega
            obtain ⟨o, ho⟩ : ∃ o, l[i]? = some o := ⟨_, List.getElem?_eq_getElem hlt⟩
            obtain ⟨ad, A', c', rfl, hadb, hcell, hnum, hrd⟩ := Rp.at_opl (Rp.opl.slice.keptNo HL.out HK2.out) ho
            obtain ⟨z0, z1, z2, z3, z4, z5, z6, z7, z8⟩ := opl_cells hcell
            have HRD := Lib.hid hrd
            have HCE : Hid (∀ (T : Nat → Prop) w', Kp T wr w' → (∀ k, SO k → ¬ T k) → ∀ (j : Nat) u, (o.cells (.slice A' o.hashes.length c'))[j]? = some u → w'.cell? ((ad.add (i * 9)).add j) = some u) := Lib.hid (fun T w' hk hT j u hu => (hk.cell (lt_of_cell (hcell j u hu)) (by rw [block_add, block_add]; exact hT _ hadb)).trans (hcell j u hu))
            have HLI : Hid (D[i]? = some ⟨o, (lastP (0, 0) (l.take i)).1, (lastP (0, 0) (l.take i)).2⟩) := Lib.hid (by rw [← HDE.out]; exact linedL_get ho)
            have HLS : Hid (lastP (0, 0) (l.take (i + 1)) = (o.n, o.epoch)) := Lib.hid (by rw [take_snocM ho, lastP_snoc])
            obtain ⟨⟨p1, p2⟩, hp⟩ : ∃ p, lastP (0, 0) (l.take i) = p := ⟨_, rfl⟩
            rw [hp] at HB2 HLI
            have HPP := Lib.hid hp
            have HAT := Lib.hid (r_at26 o (.slice A' o.hashes.length c') wr)
            have hfi := fun w' (hk : Kp No wr w') => r_find26 (o.n, o.epoch) r R F w' (HM2.out.keptNo hk) (by have := HRL.out; omega)
            have hcl : clashR (R).lines ⟨o, p1, p2⟩ = ((findR (o.n, o.epoch) (R).lines).isSome && !(decide ((((findR (o.n, o.epoch) (R).lines).getD zeroLine).an, ((findR (o.n, o.epoch) (R).lines).getD zeroLine).ae) = (p1, p2)) && decide (SameP ((findR (o.n, o.epoch) (R).lines).getD zeroLine).op o))) := by
              unfold clashR LineL.place
              cases findR (o.n, o.epoch) (R).lines <;> rfl
            obtain ⟨was, hwas⟩ : ∃ v, (findR (o.n, o.epoch) (R).lines).getD zeroLine = v := ⟨_, rfl⟩
            obtain ⟨TB, hTB⟩ : ∃ v, (findR (o.n, o.epoch) (R).lines).isSome = v := ⟨_, rfl⟩
            rw [hwas, hTB] at hfi hcl
            have HTB := Lib.hid hTB
            have HNU := Lib.hid hnum
            have HLO := Lib.hid ho
            have HCL := Lib.hid hcl
            have HFI := Lib.hid hfi
            unfold opV spotV at HAT
            unfold spotV lineV at HFI
            clear hcell hnum hrd hcl hfi hwas hTB hp ho
            obtain ⟨on, oe, okd, os, oc, oq, onm, osz, ohs⟩ := o
            obtain ⟨⟨wn, we, wk, ws, wcl, wq, wnm, wsz, whs⟩, wan, wae⟩ := was
            simp only at HRD HLI HLS HAT HFI HCL HCE HTB HNU HLO z0 z1 z2 z3 z4 z5 z6 z7 z8
            go_wp2_with fail
            refine HAT.out.mono ?_
            rintro e w4 ⟨rfl, hk4⟩
            have HK4 := Lib.hid hk4
            clear hk4 HAT
            go_wp2_with fail
            refine (HFI.out w4 HK4.out).mono ?_
            rintro e w5 ⟨A5, c5, rfl, hr5, hk5⟩
            go_upto_region 11 with fail
            obtain ⟨z, hz⟩ : ∃ v, w5.heap.size = v := ⟨_, rfl⟩
            obtain ⟨w6, hw6⟩ : ∃ v, w5.alloc (.cells #[.int .i64 wn, .int .i64 we, .int .i64 wk, .int .i64 ws, .int .i64 wcl, .int .i64 wq, .string wnm, .int .i64 wsz, .slice A5 whs.length c5, .int .i64 wan, .int .i64 wae] 76) = v := ⟨_, rfl⟩
            have hk6 : Kp No w5 w6 := by rw [← hw6]; exact (Kp.refl _ _).alloc _
            have HBZ : Hid (Blk w6 z 76 [.int .i64 wn, .int .i64 we, .int .i64 wk, .int .i64 ws, .int .i64 wcl, .int .i64 wq, .string wnm, .int .i64 wsz, .slice A5 whs.length c5, .int .i64 wan, .int .i64 wae]) := Lib.hid (by rw [← hw6, ← hz]; exact Blk.new w5 _ _)
            rw [hw6, hz]
            have HK6 : Hid (Kp No wr w6) := Lib.hid (HK4.out.trans' (hk5.trans' hk6))
            have HR6 := Lib.hid (Rp.str.slice.keptNo hr5 hk6)
            clear hr5 hk5 hk6 hw6 hz HFI HK4 z0 z1 z2 z3 z4 z5 z6 z7 z8
            obtain ⟨CB, hCB⟩ : ∃ v, clashR (R).lines ⟨⟨on, oe, okd, os, oc, oq, onm, osz, ohs⟩, p1, p2⟩ = v := ⟨_, rfl⟩
            have HCB := Lib.hid hCB
            rw [hCB] at HCL
            clear hCB
            go_cut [51] (fun bv wx => bv = .bool CB ∧ Hid (Kp No w6 wx))
            case first =>
              have HK0 : Hid (Kp No w6 w6) := Lib.hid (Kp.refl _ _)
              have s0 : w6.cell? ⟨sp, 0, none⟩ = some _ := Blk.cell (HB2.out.kept (HK6.out.trans' HK0.out) (fun z => z)) rfl
              have s1 : w6.cell? ⟨sp, 1, none⟩ = some _ := Blk.cell (HB2.out.kept (HK6.out.trans' HK0.out) (fun z => z)) rfl
              have z0 : w6.cell? ⟨z, 0, none⟩ = some _ := Blk.cell (HBZ.out.kept HK0.out (fun z => z)) rfl
              have z1 : w6.cell? ⟨z, 1, none⟩ = some _ := Blk.cell (HBZ.out.kept HK0.out (fun z => z)) rfl
              have z2 : w6.cell? ⟨z, 2, none⟩ = some _ := Blk.cell (HBZ.out.kept HK0.out (fun z => z)) rfl
              have z3 : w6.cell? ⟨z, 3, none⟩ = some _ := Blk.cell (HBZ.out.kept HK0.out (fun z => z)) rfl
              have z4 : w6.cell? ⟨z, 4, none⟩ = some _ := Blk.cell (HBZ.out.kept HK0.out (fun z => z)) rfl
              have z5 : w6.cell? ⟨z, 5, none⟩ = some _ := Blk.cell (HBZ.out.kept HK0.out (fun z => z)) rfl
              have z6 : w6.cell? ⟨z, 6, none⟩ = some _ := Blk.cell (HBZ.out.kept HK0.out (fun z => z)) rfl
              have z7 : w6.cell? ⟨z, 7, none⟩ = some _ := Blk.cell (HBZ.out.kept HK0.out (fun z => z)) rfl
              have z8 : w6.cell? ⟨z, 8, none⟩ = some _ := Blk.cell (HBZ.out.kept HK0.out (fun z => z)) rfl
              have z9 : w6.cell? ⟨z, 9, none⟩ = some _ := Blk.cell (HBZ.out.kept HK0.out (fun z => z)) rfl
              have z10 : w6.cell? ⟨z, 10, none⟩ = some _ := Blk.cell (HBZ.out.kept HK0.out (fun z => z)) rfl
              obtain ⟨q0, q1, q2, q3, q4, q5, q6, q7, q8⟩ := opl_cells (HCE.out No w6 (HK6.out.trans' HK0.out) (fun _ _ z => z))
              cases TB
              case false =>
                obtain rfl : CB = false := by rw [HCL.out]; rfl
                clear HCL
                go_quiet (fail)
                go_wp2_with fail
                go_meet
                exact ⟨rfl, Lib.hid ((Kp.refl _ _).drewN _)⟩
              case true =>
                by_cases e1 : wan = p1
                case neg =>
                  have hb1 : (wan == p1) = false := beq_eq_false_iff_ne.2 e1
                  obtain rfl : CB = true := by rw [HCL.out]; simp [e1]
                  clear HCL e1
                  go_quiet (fail)
                  go_wp2_with fail
                  go_meet
                  exact ⟨rfl, Lib.hid ((Kp.refl _ _).drewN _)⟩
                by_cases e2 : wae = p2
                case neg =>
                  have hb1 : (wae == p2) = false := beq_eq_false_iff_ne.2 e2
                  subst e1
                  obtain rfl : CB = true := by rw [HCL.out]; simp [e2]
                  clear HCL e2
                  go_quiet (fail)
                  go_wp2_with fail
                  go_meet
                  exact ⟨rfl, Lib.hid ((Kp.refl _ _).drewN _)⟩
                subst e1 e2
                clear s0 s1 z0 z1 z2 z3 z4 z5 z6 z7 z8 z9 z10 q0 q1 q2 q3 q4 q5 q6 q7 q8
                have hsm := fun w' (hk : Kp No w6 w') => r_sameop ⟨wn, we, wk, ws, wcl, wq, wnm, wsz, whs⟩ ⟨on, oe, okd, os, oc, oq, onm, osz, ohs⟩ A5 A' c5 c' w' _ _ (Rp.str.slice.keptNo HR6.out hk) (Rp.str.slice.keptNo HRD.out (HK6.out.trans' hk))
                obtain ⟨Q, hQ⟩ : ∃ Q, decide (SameP ⟨wn, we, wk, ws, wcl, wq, wnm, wsz, whs⟩ ⟨on, oe, okd, os, oc, oq, onm, osz, ohs⟩) = Q := ⟨_, rfl⟩
                rw [hQ] at hsm HCL
                obtain rfl : CB = !Q := by rw [HCL.out]; simp
                unfold opV at hsm
                simp only at hsm
                have HSO2 := Lib.hid hsm
                clear hsm hQ HCL
                obtain ⟨wd, hwd⟩ : ∃ v, w6.drew = v := ⟨_, rfl⟩
                have HKD : Hid (Kp No w6 wd) := Lib.hid (by rw [← hwd]; exact (Kp.refl _ _).drew)
                have s0 : wd.cell? ⟨sp, 0, none⟩ = some _ := Blk.cell (HB2.out.kept (HK6.out.trans' HKD.out) (fun z => z)) rfl
                have s1 : wd.cell? ⟨sp, 1, none⟩ = some _ := Blk.cell (HB2.out.kept (HK6.out.trans' HKD.out) (fun z => z)) rfl
                have z0 : wd.cell? ⟨z, 0, none⟩ = some _ := Blk.cell (HBZ.out.kept HKD.out (fun z => z)) rfl
                have z1 : wd.cell? ⟨z, 1, none⟩ = some _ := Blk.cell (HBZ.out.kept HKD.out (fun z => z)) rfl
                have z2 : wd.cell? ⟨z, 2, none⟩ = some _ := Blk.cell (HBZ.out.kept HKD.out (fun z => z)) rfl
                have z3 : wd.cell? ⟨z, 3, none⟩ = some _ := Blk.cell (HBZ.out.kept HKD.out (fun z => z)) rfl
                have z4 : wd.cell? ⟨z, 4, none⟩ = some _ := Blk.cell (HBZ.out.kept HKD.out (fun z => z)) rfl
                have z5 : wd.cell? ⟨z, 5, none⟩ = some _ := Blk.cell (HBZ.out.kept HKD.out (fun z => z)) rfl
                have z6 : wd.cell? ⟨z, 6, none⟩ = some _ := Blk.cell (HBZ.out.kept HKD.out (fun z => z)) rfl
                have z7 : wd.cell? ⟨z, 7, none⟩ = some _ := Blk.cell (HBZ.out.kept HKD.out (fun z => z)) rfl
                have z8 : wd.cell? ⟨z, 8, none⟩ = some _ := Blk.cell (HBZ.out.kept HKD.out (fun z => z)) rfl
                have z9 : wd.cell? ⟨z, 9, none⟩ = some _ := Blk.cell (HBZ.out.kept HKD.out (fun z => z)) rfl
                have z10 : wd.cell? ⟨z, 10, none⟩ = some _ := Blk.cell (HBZ.out.kept HKD.out (fun z => z)) rfl
                obtain ⟨q0, q1, q2, q3, q4, q5, q6, q7, q8⟩ := opl_cells (HCE.out No wd (HK6.out.trans' HKD.out) (fun _ _ z => z))
                refine Reg.wp_region_plan [⟨0, false, []⟩, ⟨1, false, []⟩, ⟨2, false, []⟩, ⟨3, false, []⟩, ⟨4, false, []⟩, ⟨5, false, []⟩, ⟨6, false, []⟩, ⟨7, false, []⟩, ⟨8, false, []⟩, ⟨9, false, []⟩, ⟨10, false, []⟩, ⟨11, false, []⟩, ⟨12, false, []⟩, ⟨13, true, []⟩, ⟨14, false, []⟩, ⟨15, false, []⟩, ⟨16, false, []⟩] rfl (by kernel_rfl) ?_
                rw [hwd]
                clear hwd
                repeat (first | (refine Reg.look rfl rfl rfl (by go_simp; rfl) rfl ?_; go_simp) | (refine Reg.skip rfl rfl rfl ?_; go_simp))
                refine Reg.act rfl ?_
                go_wp2_with fail
                refine (HSO2.out wd HKD.out).mono ?_
                rintro e w7 ⟨rfl, hk7⟩
                have HK7 := Lib.hid (HKD.out.trans' hk7)
                clear hk7 HSO2
                clear s0 s1 z0 z1 z2 z3 z4 z5 z6 z7 z8 z9 z10 q0 q1 q2 q3 q4 q5 q6 q7 q8
                have s0 : w7.cell? ⟨sp, 0, none⟩ = some _ := Blk.cell (HB2.out.kept (HK6.out.trans' HK7.out) (fun z => z)) rfl
                have s1 : w7.cell? ⟨sp, 1, none⟩ = some _ := Blk.cell (HB2.out.kept (HK6.out.trans' HK7.out) (fun z => z)) rfl
                have z0 : w7.cell? ⟨z, 0, none⟩ = some _ := Blk.cell (HBZ.out.kept HK7.out (fun z => z)) rfl
                have z1 : w7.cell? ⟨z, 1, none⟩ = some _ := Blk.cell (HBZ.out.kept HK7.out (fun z => z)) rfl
                have z2 : w7.cell? ⟨z, 2, none⟩ = some _ := Blk.cell (HBZ.out.kept HK7.out (fun z => z)) rfl
                have z3 : w7.cell? ⟨z, 3, none⟩ = some _ := Blk.cell (HBZ.out.kept HK7.out (fun z => z)) rfl
                have z4 : w7.cell? ⟨z, 4, none⟩ = some _ := Blk.cell (HBZ.out.kept HK7.out (fun z => z)) rfl
                have z5 : w7.cell? ⟨z, 5, none⟩ = some _ := Blk.cell (HBZ.out.kept HK7.out (fun z => z)) rfl
                have z6 : w7.cell? ⟨z, 6, none⟩ = some _ := Blk.cell (HBZ.out.kept HK7.out (fun z => z)) rfl
                have z7 : w7.cell? ⟨z, 7, none⟩ = some _ := Blk.cell (HBZ.out.kept HK7.out (fun z => z)) rfl
                have z8 : w7.cell? ⟨z, 8, none⟩ = some _ := Blk.cell (HBZ.out.kept HK7.out (fun z => z)) rfl
                have z9 : w7.cell? ⟨z, 9, none⟩ = some _ := Blk.cell (HBZ.out.kept HK7.out (fun z => z)) rfl
                have z10 : w7.cell? ⟨z, 10, none⟩ = some _ := Blk.cell (HBZ.out.kept HK7.out (fun z => z)) rfl
                obtain ⟨q0, q1, q2, q3, q4, q5, q6, q7, q8⟩ := opl_cells (HCE.out No w7 (HK6.out.trans' HK7.out) (fun _ _ z => z))
                go_wp2_with fail
                (refine ⟨?anew, ?_⟩; case anew => ((repeat (refine Reg.anew_cons rfl rfl (fun _ => by go_simp) ?_)); exact Reg.anew_nil))
                repeat (first | (refine Reg.look rfl rfl rfl (by go_simp; rfl) rfl ?_; go_simp) | (refine Reg.skip rfl rfl rfl ?_; go_simp))
                (refine Reg.done ?_; simp only [Exit.then])
                go_wp2_with fail
                go_meet
                exact ⟨rfl, HK7⟩
            case rest =>
              obtain ⟨rfl, HKC⟩ := hcut
              have hmem : (⟨⟨on, oe, okd, os, oc, oq, onm, osz, ohs⟩, p1, p2⟩ : LineL) ∈ D := List.mem_of_getElem? HLI.out
              cases CB
              case true =>
                have hP : P = (200, R) := by rw [HPB.out, if_pos (List.any_eq_true.2 ⟨_, hmem, HCB.out⟩)]
                subst hP
                clear hmem
                go_wp2_with fail
                go_ret
                exact ⟨rfl, F, HM2.out.keptNo (HK6.out.trans' HKC.out), (HK2.out.trans' (HK6.out.trans' HKC.out)).any, fun k hk => .inl hk⟩
              have HN2 : Hid (∀ b ∈ D.take (i + 1), clashR R.lines b = false) := Lib.hid (fun b hb => by
                rw [List.take_add_one, HLI.out] at hb
                rcases List.mem_append.1 hb with hb | hb
                · exact HNC.out b hb
                · rw [List.mem_singleton.1 hb]; exact HCB.out)
              have HKX := Lib.hid (HK6.out.trans' HKC.out)
              clear hmem
              cases TB
              · skip
                obtain ⟨q0, q1, q2, q3, q4, q5, q6, q7, q8⟩ := opl_cells (HCE.out No wc HKX.out (fun _ _ z => z))
                have HAT2 := Lib.hid (r_at26 ⟨on, oe, okd, os, oc, oq, onm, osz, ohs⟩ (.slice A' ohs.length c') wc)
                unfold opV spotV at HAT2
                simp only at HAT2
                go_wp2_with fail
                refine HAT2.out.mono ?_
                rintro e w9 ⟨rfl, hk9⟩
                have hb9 := HB2.out.kept (HKX.out.trans' hk9) (fun z => z)
                have hst := run_store_spot26 w9 sp _ _ on oe hb9
                have hbs : Blk ((w9.setCell ⟨sp, 0, none⟩ (.int .i64 on)).setCell ⟨sp, 1, none⟩ (.int .i64 oe)) sp 37 [.int .i64 on, .int .i64 oe] := Blk.set (Blk.set hb9 0 (.int .i64 on)) 1 (.int .i64 oe)
                have hks : Kp (· = sp) w9 ((w9.setCell ⟨sp, 0, none⟩ (.int .i64 on)).setCell ⟨sp, 1, none⟩ (.int .i64 oe)) := ((Kp.refl (· = sp) w9).setCell (p := ⟨sp, 0, none⟩) (fun _ => rfl) _).setCell (p := ⟨sp, 1, none⟩) (fun _ => rfl) _
                obtain ⟨wz, hwz⟩ : ∃ v, (w9.setCell ⟨sp, 0, none⟩ (.int .i64 on)).setCell ⟨sp, 1, none⟩ (.int .i64 oe) = v := ⟨_, rfl⟩
                rw [hwz] at hst hbs hks
                have HST := Lib.hid hst
                have HBS := Lib.hid hbs
                have HKS := Lib.hid hks
                have HK9 := Lib.hid (HKX.out.trans' hk9)
                clear hk9 hb9 hst hbs hks hwz HAT2
                clear q0 q1 q2 q3 q4 q5 q6 q7 q8
                go_wp2_with (refine wpl_store (by first | rfl | go_simp) 37 _ _ rfl _ _ (by go_simp) (by go_simp) HST.out ?_; go_simp)
                go_roundw
                case rel => exact ⟨i + 1, by omega, by go_num, by rw [HLS.out]; exact HBS, HN2, Lib.hid ((HK2.out.trans' HK9.out).trans HKS.out (fun k hk e => by have := HSW.out; omega)), Lib.hid ((HM2.out.keptNo HK9.out).kept HKS.out (fun k hk e => by have := HM.out.lt hk; have := HSW.out; omega))⟩
                case measure => simp [intOf]; omega
              · skip
                obtain ⟨q0, q1, q2, q3, q4, q5, q6, q7, q8⟩ := opl_cells (HCE.out No wc HKX.out (fun _ _ z => z))
                have HAT2 := Lib.hid (r_at26 ⟨on, oe, okd, os, oc, oq, onm, osz, ohs⟩ (.slice A' ohs.length c') wc)
                unfold opV spotV at HAT2
                simp only at HAT2
                go_wp2_with fail
                refine HAT2.out.mono ?_
                rintro e w9 ⟨rfl, hk9⟩
                have hb9 := HB2.out.kept (HKX.out.trans' hk9) (fun z => z)
                have hst := run_store_spot26 w9 sp _ _ on oe hb9
                have hbs : Blk ((w9.setCell ⟨sp, 0, none⟩ (.int .i64 on)).setCell ⟨sp, 1, none⟩ (.int .i64 oe)) sp 37 [.int .i64 on, .int .i64 oe] := Blk.set (Blk.set hb9 0 (.int .i64 on)) 1 (.int .i64 oe)
                have hks : Kp (· = sp) w9 ((w9.setCell ⟨sp, 0, none⟩ (.int .i64 on)).setCell ⟨sp, 1, none⟩ (.int .i64 oe)) := ((Kp.refl (· = sp) w9).setCell (p := ⟨sp, 0, none⟩) (fun _ => rfl) _).setCell (p := ⟨sp, 1, none⟩) (fun _ => rfl) _
                obtain ⟨wz, hwz⟩ : ∃ v, (w9.setCell ⟨sp, 0, none⟩ (.int .i64 on)).setCell ⟨sp, 1, none⟩ (.int .i64 oe) = v := ⟨_, rfl⟩
                rw [hwz] at hst hbs hks
                have HST := Lib.hid hst
                have HBS := Lib.hid hbs
                have HKS := Lib.hid hks
                have HK9 := Lib.hid (HKX.out.trans' hk9)
                clear hk9 hb9 hst hbs hks hwz HAT2
                clear q0 q1 q2 q3 q4 q5 q6 q7 q8
                go_wp2_with (refine wpl_store (by first | rfl | go_simp) 37 _ _ rfl _ _ (by go_simp) (by go_simp) HST.out ?_; go_simp)
                go_roundw
                case rel => exact ⟨i + 1, by omega, by go_num, by rw [HLS.out]; exact HBS, HN2, Lib.hid ((HK2.out.trans' HK9.out).trans HKS.out (fun k hk e => by have := HSW.out; omega)), Lib.hid ((HM2.out.keptNo HK9.out).kept HKS.out (fun k hk e => by have := HM.out.lt hk; have := HSW.out; omega))⟩
                case measure => simp [intOf]; omega
      · skip
        obtain ⟨w1, rfl⟩ : ∃ v, v = wr := ⟨_, rfl⟩
        go_wp2_with fail
        obtain ⟨sp, hsp⟩ : ∃ v, w1.heap.size = v := ⟨_, rfl⟩
        obtain ⟨w2, hw2⟩ : ∃ v, w1.alloc (.cells #[.int .i64 0, .int .i64 0] 37) = v := ⟨_, rfl⟩
        have hk2 : Kp No w1 w2 := by rw [← hw2]; exact (Kp.refl _ _).alloc _
        have HB2 : Hid (Blk w2 sp 37 [.int .i64 (lastP (0, 0) (l.take 0)).1, .int .i64 (lastP (0, 0) (l.take 0)).2]) := Lib.hid (by rw [← hw2, ← hsp]; exact Blk.new w1 _ _)
        have HSW : Hid (w.heap.size ≤ sp) := Lib.hid (by rw [← hsp]; exact HK2.out.size)
        have HM2 : Hid (RMAt w2 r { R with lines := addR R.lines (D.take 0) } F) := Lib.hid (HM.out.keptNo (HK2.out.trans' hk2))
        have HU2 : Hid (Upd F w w2 F) := Lib.hid (Upd.kpNo (HK2.out.trans' hk2))
        have HFS : Hid (¬ F sp) := Lib.hid (fun hf => by have := HM.out.lt hf; have := HSW.out; omega)
        rw [hw2, hsp]
        clear hk2 hw2 hsp HK2
        go_loopw [7] (fun iv wr => ∃ (i : Nat) (F' : Nat → Prop), i ≤ l.length ∧ iv = .int .i64 (i : Int) ∧ Hid (Blk wr sp 37 [.int .i64 (lastP (0, 0) (l.take i)).1, .int .i64 (lastP (0, 0) (l.take i)).2]) ∧ Hid (RMAt wr r { R with lines := addR R.lines (D.take i) } F') ∧ Hid (Upd F w wr F') ∧ Hid (¬ F' sp)) (fun iv _ => l.length - (intOf iv).toNat)
        case atStart => exact ⟨0, F, Nat.zero_le _, rfl, HB2, HM2, HU2, HFS⟩
        case round =>
          clear HB2 HM2 HU2 HFS
          obtain ⟨i, F', hi, rfl, HB2, HM2, HU2, HFS⟩ := hrel
          by_cases hlt : i < l.length
          case neg =>
            obtain rfl : i = l.length := by omega
            have HFN : Hid (∃ F', RMAt wr r { R with lines := addR R.lines D } F' ∧ Upd F w wr F') := Lib.hid (by
              have h := HM2.out
              rw [List.take_of_length_le (Nat.le_of_eq HDL.out)] at h
              exact ⟨F', h, HU2.out⟩)
            clear hi hlt
            go_wp2_with fail
            go_roundw
            case rel => exact .inr (.inr ⟨by go_num, HNC, HFN⟩)
            case measure => simp [intOf]
          case pos =>
            have hli : (i : Int) < (l.length : Int) := by omega
            obtain ⟨o, ho⟩ : ∃ o, l[i]? = some o := ⟨_, List.getElem?_eq_getElem hlt⟩
            obtain ⟨Ri, hRi⟩ : ∃ v : RV, { R with lines := addR R.lines (D.take i) } = v := ⟨_, rfl⟩
            have HRI := Lib.hid hRi
            have HRN : Hid (Ri.lines.length ≤ 1000000) := Lib.hid (by
              rw [← hRi]
              have := addR_length (D.take i) R.lines
              have := HRL.out
              have := HDL.out
              simp only [List.length_take] at *
              omega)
            rw [hRi] at HM2
            clear hRi
            obtain ⟨ad, A', c', rfl, hadb, hcell, hnum, hrd⟩ := Rp.at_opl (Rp.opl.slice.kept HL.out HU2.out.kp (fun k hk _ => (HSO.out k hk).2)) ho
            obtain ⟨z0, z1, z2, z3, z4, z5, z6, z7, z8⟩ := opl_cells hcell
            have HRD := Lib.hid hrd
            have HCE : Hid (∀ (T : Nat → Prop) w', Kp T wr w' → (∀ k, SO k → ¬ T k) → ∀ (j : Nat) u, (o.cells (.slice A' o.hashes.length c'))[j]? = some u → w'.cell? ((ad.add (i * 9)).add j) = some u) := Lib.hid (fun T w' hk hT j u hu => (hk.cell (lt_of_cell (hcell j u hu)) (by rw [block_add, block_add]; exact hT _ hadb)).trans (hcell j u hu))
            have HLI : Hid (D[i]? = some ⟨o, (lastP (0, 0) (l.take i)).1, (lastP (0, 0) (l.take i)).2⟩) := Lib.hid (by rw [← HDE.out]; exact linedL_get ho)
            have HLS : Hid (lastP (0, 0) (l.take (i + 1)) = (o.n, o.epoch)) := Lib.hid (by rw [take_snocM ho, lastP_snoc])
            obtain ⟨⟨p1, p2⟩, hp⟩ : ∃ p, lastP (0, 0) (l.take i) = p := ⟨_, rfl⟩
            rw [hp] at HB2 HLI
            have HPP := Lib.hid hp
            have HAT := Lib.hid (r_at26 o (.slice A' o.hashes.length c') wr)
            have hfi := fun w' (hk : Kp No wr w') => r_find26 (o.n, o.epoch) r Ri F' w' (HM2.out.keptNo hk) (HRN.out)
            have hcl : clashR (Ri).lines ⟨o, p1, p2⟩ = ((findR (o.n, o.epoch) (Ri).lines).isSome && !(decide ((((findR (o.n, o.epoch) (Ri).lines).getD zeroLine).an, ((findR (o.n, o.epoch) (Ri).lines).getD zeroLine).ae) = (p1, p2)) && decide (SameP ((findR (o.n, o.epoch) (Ri).lines).getD zeroLine).op o))) := by
              unfold clashR LineL.place
              cases findR (o.n, o.epoch) (Ri).lines <;> rfl
            obtain ⟨was, hwas⟩ : ∃ v, (findR (o.n, o.epoch) (Ri).lines).getD zeroLine = v := ⟨_, rfl⟩
            obtain ⟨TB, hTB⟩ : ∃ v, (findR (o.n, o.epoch) (Ri).lines).isSome = v := ⟨_, rfl⟩
            rw [hwas, hTB] at hfi hcl
            have HTB := Lib.hid hTB
            have HNU := Lib.hid hnum
            have HLO := Lib.hid ho
            have HCL := Lib.hid hcl
            have HFI := Lib.hid hfi
            unfold opV spotV at HAT
            unfold spotV lineV at HFI
            clear hcell hnum hrd hcl hfi hwas hTB hp ho
            obtain ⟨on, oe, okd, os, oc, oq, onm, osz, ohs⟩ := o
            obtain ⟨⟨wn, we, wk, ws, wcl, wq, wnm, wsz, whs⟩, wan, wae⟩ := was
            simp only at HRD HLI HLS HAT HFI HCL HCE HTB HNU HLO z0 z1 z2 z3 z4 z5 z6 z7 z8
            go_wp2_with fail
            refine HAT.out.mono ?_
            rintro e w4 ⟨rfl, hk4⟩
            have HK4 := Lib.hid hk4
            clear hk4 HAT
            go_wp2_with fail
            refine (HFI.out w4 HK4.out).mono ?_
            rintro e w5 ⟨A5, c5, rfl, hr5, hk5⟩
            go_upto_region 11 with fail
            obtain ⟨z, hz⟩ : ∃ v, w5.heap.size = v := ⟨_, rfl⟩
            obtain ⟨w6, hw6⟩ : ∃ v, w5.alloc (.cells #[.int .i64 wn, .int .i64 we, .int .i64 wk, .int .i64 ws, .int .i64 wcl, .int .i64 wq, .string wnm, .int .i64 wsz, .slice A5 whs.length c5, .int .i64 wan, .int .i64 wae] 76) = v := ⟨_, rfl⟩
            have hk6 : Kp No w5 w6 := by rw [← hw6]; exact (Kp.refl _ _).alloc _
            have HBZ : Hid (Blk w6 z 76 [.int .i64 wn, .int .i64 we, .int .i64 wk, .int .i64 ws, .int .i64 wcl, .int .i64 wq, .string wnm, .int .i64 wsz, .slice A5 whs.length c5, .int .i64 wan, .int .i64 wae]) := Lib.hid (by rw [← hw6, ← hz]; exact Blk.new w5 _ _)
            rw [hw6, hz]
            have HK6 : Hid (Kp No wr w6) := Lib.hid (HK4.out.trans' (hk5.trans' hk6))
            have HR6 := Lib.hid (Rp.str.slice.keptNo hr5 hk6)
            clear hr5 hk5 hk6 hw6 hz HFI HK4 z0 z1 z2 z3 z4 z5 z6 z7 z8
            have hcn : clashR Ri.lines ⟨⟨on, oe, okd, os, oc, oq, onm, osz, ohs⟩, p1, p2⟩ = false := by
              have hmem : (⟨⟨on, oe, okd, os, oc, oq, onm, osz, ohs⟩, p1, p2⟩ : LineL) ∈ D := List.mem_of_getElem? HLI.out
              have h1 := HNC.out _ hmem
              have hpw := HPW.out (by first | rfl | trivial)
              have h2 : findR ((on, oe) : Int × Int) Ri.lines = findR (on, oe) R.lines := by
                rw [← HRI.out]
                refine findR_addR_not (fun b hb e => ?_)
                obtain ⟨j, hj⟩ := List.getElem?_of_mem hb
                have hji : j < i := by have := (List.getElem?_eq_some_iff.1 hj).1; rw [List.length_take] at this; omega
                rw [List.getElem?_take, if_pos hji] at hj
                obtain ⟨e1, e2⟩ := List.getElem?_eq_some_iff.1 hj
                obtain ⟨e3, e4⟩ := List.getElem?_eq_some_iff.1 HLI.out
                have h5 := List.pairwise_iff_getElem.1 hpw j i e1 e3 hji
                rw [e2, e4] at h5
                exact h5 e
              have h3 : clashR Ri.lines ⟨⟨on, oe, okd, os, oc, oq, onm, osz, ohs⟩, p1, p2⟩ = clashR R.lines ⟨⟨on, oe, okd, os, oc, oq, onm, osz, ohs⟩, p1, p2⟩ := by
                unfold clashR LineL.place
                simp only
                rw [h2]
              rw [h3]; exact h1
            have HCN := Lib.hid hcn
            clear hcn
            obtain ⟨CB, hCB⟩ : ∃ v, clashR (Ri).lines ⟨⟨on, oe, okd, os, oc, oq, onm, osz, ohs⟩, p1, p2⟩ = v := ⟨_, rfl⟩
            have HCB := Lib.hid hCB
            rw [hCB] at HCL
            clear hCB
            go_cut [51] (fun bv wx => bv = .bool CB ∧ Hid (Kp No w6 wx))
            case first =>
              have HK0 : Hid (Kp No w6 w6) := Lib.hid (Kp.refl _ _)
              have s0 : w6.cell? ⟨sp, 0, none⟩ = some _ := Blk.cell (HB2.out.kept (HK6.out.trans' HK0.out) (fun z => z)) rfl
              have s1 : w6.cell? ⟨sp, 1, none⟩ = some _ := Blk.cell (HB2.out.kept (HK6.out.trans' HK0.out) (fun z => z)) rfl
              have z0 : w6.cell? ⟨z, 0, none⟩ = some _ := Blk.cell (HBZ.out.kept HK0.out (fun z => z)) rfl
              have z1 : w6.cell? ⟨z, 1, none⟩ = some _ := Blk.cell (HBZ.out.kept HK0.out (fun z => z)) rfl
              have z2 : w6.cell? ⟨z, 2, none⟩ = some _ := Blk.cell (HBZ.out.kept HK0.out (fun z => z)) rfl
              have z3 : w6.cell? ⟨z, 3, none⟩ = some _ := Blk.cell (HBZ.out.kept HK0.out (fun z => z)) rfl
              have z4 : w6.cell? ⟨z, 4, none⟩ = some _ := Blk.cell (HBZ.out.kept HK0.out (fun z => z)) rfl
              have z5 : w6.cell? ⟨z, 5, none⟩ = some _ := Blk.cell (HBZ.out.kept HK0.out (fun z => z)) rfl
              have z6 : w6.cell? ⟨z, 6, none⟩ = some _ := Blk.cell (HBZ.out.kept HK0.out (fun z => z)) rfl
              have z7 : w6.cell? ⟨z, 7, none⟩ = some _ := Blk.cell (HBZ.out.kept HK0.out (fun z => z)) rfl
              have z8 : w6.cell? ⟨z, 8, none⟩ = some _ := Blk.cell (HBZ.out.kept HK0.out (fun z => z)) rfl
              have z9 : w6.cell? ⟨z, 9, none⟩ = some _ := Blk.cell (HBZ.out.kept HK0.out (fun z => z)) rfl
              have z10 : w6.cell? ⟨z, 10, none⟩ = some _ := Blk.cell (HBZ.out.kept HK0.out (fun z => z)) rfl
              obtain ⟨q0, q1, q2, q3, q4, q5, q6, q7, q8⟩ := opl_cells (HCE.out No w6 (HK6.out.trans' HK0.out) (fun _ _ z => z))
              cases TB
              case false =>
                obtain rfl : CB = false := by rw [HCL.out]; rfl
                clear HCL
                go_quiet (fail)
                go_wp2_with fail
                go_meet
                exact ⟨rfl, Lib.hid ((Kp.refl _ _).drewN _)⟩
              case true =>
                by_cases e1 : wan = p1
                case neg =>
                  have hb1 : (wan == p1) = false := beq_eq_false_iff_ne.2 e1
                  obtain rfl : CB = true := by rw [HCL.out]; simp [e1]
                  clear HCL e1
                  go_quiet (fail)
                  go_wp2_with fail
                  go_meet
                  exact ⟨rfl, Lib.hid ((Kp.refl _ _).drewN _)⟩
                by_cases e2 : wae = p2
                case neg =>
                  have hb1 : (wae == p2) = false := beq_eq_false_iff_ne.2 e2
                  subst e1
                  obtain rfl : CB = true := by rw [HCL.out]; simp [e2]
                  clear HCL e2
                  go_quiet (fail)
                  go_wp2_with fail
                  go_meet
                  exact ⟨rfl, Lib.hid ((Kp.refl _ _).drewN _)⟩
                subst e1 e2
                clear s0 s1 z0 z1 z2 z3 z4 z5 z6 z7 z8 z9 z10 q0 q1 q2 q3 q4 q5 q6 q7 q8
                have hsm := fun w' (hk : Kp No w6 w') => r_sameop ⟨wn, we, wk, ws, wcl, wq, wnm, wsz, whs⟩ ⟨on, oe, okd, os, oc, oq, onm, osz, ohs⟩ A5 A' c5 c' w' _ _ (Rp.str.slice.keptNo HR6.out hk) (Rp.str.slice.keptNo HRD.out (HK6.out.trans' hk))
                obtain ⟨Q, hQ⟩ : ∃ Q, decide (SameP ⟨wn, we, wk, ws, wcl, wq, wnm, wsz, whs⟩ ⟨on, oe, okd, os, oc, oq, onm, osz, ohs⟩) = Q := ⟨_, rfl⟩
                rw [hQ] at hsm HCL
                obtain rfl : CB = !Q := by rw [HCL.out]; simp
                unfold opV at hsm
                simp only at hsm
                have HSO2 := Lib.hid hsm
                clear hsm hQ HCL
                obtain ⟨wd, hwd⟩ : ∃ v, w6.drew = v := ⟨_, rfl⟩
                have HKD : Hid (Kp No w6 wd) := Lib.hid (by rw [← hwd]; exact (Kp.refl _ _).drew)
                have s0 : wd.cell? ⟨sp, 0, none⟩ = some _ := Blk.cell (HB2.out.kept (HK6.out.trans' HKD.out) (fun z => z)) rfl
                have s1 : wd.cell? ⟨sp, 1, none⟩ = some _ := Blk.cell (HB2.out.kept (HK6.out.trans' HKD.out) (fun z => z)) rfl
                have z0 : wd.cell? ⟨z, 0, none⟩ = some _ := Blk.cell (HBZ.out.kept HKD.out (fun z => z)) rfl
                have z1 : wd.cell? ⟨z, 1, none⟩ = some _ := Blk.cell (HBZ.out.kept HKD.out (fun z => z)) rfl
                have z2 : wd.cell? ⟨z, 2, none⟩ = some _ := Blk.cell (HBZ.out.kept HKD.out (fun z => z)) rfl
                have z3 : wd.cell? ⟨z, 3, none⟩ = some _ := Blk.cell (HBZ.out.kept HKD.out (fun z => z)) rfl
                have z4 : wd.cell? ⟨z, 4, none⟩ = some _ := Blk.cell (HBZ.out.kept HKD.out (fun z => z)) rfl
                have z5 : wd.cell? ⟨z, 5, none⟩ = some _ := Blk.cell (HBZ.out.kept HKD.out (fun z => z)) rfl
                have z6 : wd.cell? ⟨z, 6, none⟩ = some _ := Blk.cell (HBZ.out.kept HKD.out (fun z => z)) rfl
                have z7 : wd.cell? ⟨z, 7, none⟩ = some _ := Blk.cell (HBZ.out.kept HKD.out (fun z => z)) rfl
                have z8 : wd.cell? ⟨z, 8, none⟩ = some _ := Blk.cell (HBZ.out.kept HKD.out (fun z => z)) rfl
                have z9 : wd.cell? ⟨z, 9, none⟩ = some _ := Blk.cell (HBZ.out.kept HKD.out (fun z => z)) rfl
                have z10 : wd.cell? ⟨z, 10, none⟩ = some _ := Blk.cell (HBZ.out.kept HKD.out (fun z => z)) rfl
                obtain ⟨q0, q1, q2, q3, q4, q5, q6, q7, q8⟩ := opl_cells (HCE.out No wd (HK6.out.trans' HKD.out) (fun _ _ z => z))
                refine Reg.wp_region_plan [⟨0, false, []⟩, ⟨1, false, []⟩, ⟨2, false, []⟩, ⟨3, false, []⟩, ⟨4, false, []⟩, ⟨5, false, []⟩, ⟨6, false, []⟩, ⟨7, false, []⟩, ⟨8, false, []⟩, ⟨9, false, []⟩, ⟨10, false, []⟩, ⟨11, false, []⟩, ⟨12, false, []⟩, ⟨13, true, []⟩, ⟨14, false, []⟩, ⟨15, false, []⟩, ⟨16, false, []⟩] rfl (by kernel_rfl) ?_
                rw [hwd]
                clear hwd
                repeat (first | (refine Reg.look rfl rfl rfl (by go_simp; rfl) rfl ?_; go_simp) | (refine Reg.skip rfl rfl rfl ?_; go_simp))
                refine Reg.act rfl ?_
                go_wp2_with fail
                refine (HSO2.out wd HKD.out).mono ?_
                rintro e w7 ⟨rfl, hk7⟩
                have HK7 := Lib.hid (HKD.out.trans' hk7)
                clear hk7 HSO2
                clear s0 s1 z0 z1 z2 z3 z4 z5 z6 z7 z8 z9 z10 q0 q1 q2 q3 q4 q5 q6 q7 q8
                have s0 : w7.cell? ⟨sp, 0, none⟩ = some _ := Blk.cell (HB2.out.kept (HK6.out.trans' HK7.out) (fun z => z)) rfl
                have s1 : w7.cell? ⟨sp, 1, none⟩ = some _ := Blk.cell (HB2.out.kept (HK6.out.trans' HK7.out) (fun z => z)) rfl
                have z0 : w7.cell? ⟨z, 0, none⟩ = some _ := Blk.cell (HBZ.out.kept HK7.out (fun z => z)) rfl
                have z1 : w7.cell? ⟨z, 1, none⟩ = some _ := Blk.cell (HBZ.out.kept HK7.out (fun z => z)) rfl
                have z2 : w7.cell? ⟨z, 2, none⟩ = some _ := Blk.cell (HBZ.out.kept HK7.out (fun z => z)) rfl
                have z3 : w7.cell? ⟨z, 3, none⟩ = some _ := Blk.cell (HBZ.out.kept HK7.out (fun z => z)) rfl
                have z4 : w7.cell? ⟨z, 4, none⟩ = some _ := Blk.cell (HBZ.out.kept HK7.out (fun z => z)) rfl
                have z5 : w7.cell? ⟨z, 5, none⟩ = some _ := Blk.cell (HBZ.out.kept HK7.out (fun z => z)) rfl
                have z6 : w7.cell? ⟨z, 6, none⟩ = some _ := Blk.cell (HBZ.out.kept HK7.out (fun z => z)) rfl
                have z7 : w7.cell? ⟨z, 7, none⟩ = some _ := Blk.cell (HBZ.out.kept HK7.out (fun z => z)) rfl
                have z8 : w7.cell? ⟨z, 8, none⟩ = some _ := Blk.cell (HBZ.out.kept HK7.out (fun z => z)) rfl
                have z9 : w7.cell? ⟨z, 9, none⟩ = some _ := Blk.cell (HBZ.out.kept HK7.out (fun z => z)) rfl
                have z10 : w7.cell? ⟨z, 10, none⟩ = some _ := Blk.cell (HBZ.out.kept HK7.out (fun z => z)) rfl
                obtain ⟨q0, q1, q2, q3, q4, q5, q6, q7, q8⟩ := opl_cells (HCE.out No w7 (HK6.out.trans' HK7.out) (fun _ _ z => z))
                go_wp2_with fail
                (refine ⟨?anew, ?_⟩; case anew => ((repeat (refine Reg.anew_cons rfl rfl (fun _ => by go_simp) ?_)); exact Reg.anew_nil))
                repeat (first | (refine Reg.look rfl rfl rfl (by go_simp; rfl) rfl ?_; go_simp) | (refine Reg.skip rfl rfl rfl ?_; go_simp))
                (refine Reg.done ?_; simp only [Exit.then])
                go_wp2_with fail
                go_meet
                exact ⟨rfl, HK7⟩
            case rest =>
              obtain ⟨rfl, HKC⟩ := hcut
              obtain rfl : CB = false := by rw [← HCB.out]; exact HCN.out
              have HKX := Lib.hid (HK6.out.trans' HKC.out)
              have HAD : Hid (addR R.lines (D.take (i + 1)) = add1 Ri.lines ⟨⟨on, oe, okd, os, oc, oq, onm, osz, ohs⟩, p1, p2⟩) := Lib.hid (by
                rw [List.take_add_one, HLI.out, ← HRI.out]
                exact addR_snoc _ _ _)
              cases TB
              case true =>
                have HM3 : Hid (RMAt wr r { R with lines := addR R.lines (D.take (i + 1)) } F') := Lib.hid (by
                  rw [HAD.out]
                  have hq : (findR (LineL.place ⟨⟨on, oe, okd, os, oc, oq, onm, osz, ohs⟩, p1, p2⟩) Ri.lines).isSome = true := HTB.out
                  unfold add1
                  rw [if_pos hq]
                  have h := HM2.out
                  rw [← HRI.out] at h ⊢
                  exact h)
                obtain ⟨q0, q1, q2, q3, q4, q5, q6, q7, q8⟩ := opl_cells (HCE.out No wc HKX.out (fun _ _ z => z))
                have HAT2 := Lib.hid (r_at26 ⟨on, oe, okd, os, oc, oq, onm, osz, ohs⟩ (.slice A' ohs.length c') wc)
                unfold opV spotV at HAT2
                simp only at HAT2
                go_wp2_with fail
                refine HAT2.out.mono ?_
                rintro e w9 ⟨rfl, hk9⟩
                have hb9 := HB2.out.kept (HKX.out.trans' hk9) (fun z => z)
                have hst := run_store_spot26 w9 sp _ _ on oe hb9
                have hbs : Blk ((w9.setCell ⟨sp, 0, none⟩ (.int .i64 on)).setCell ⟨sp, 1, none⟩ (.int .i64 oe)) sp 37 [.int .i64 on, .int .i64 oe] := Blk.set (Blk.set hb9 0 (.int .i64 on)) 1 (.int .i64 oe)
                have hks : Kp (· = sp) w9 ((w9.setCell ⟨sp, 0, none⟩ (.int .i64 on)).setCell ⟨sp, 1, none⟩ (.int .i64 oe)) := ((Kp.refl (· = sp) w9).setCell (p := ⟨sp, 0, none⟩) (fun _ => rfl) _).setCell (p := ⟨sp, 1, none⟩) (fun _ => rfl) _
                obtain ⟨wz, hwz⟩ : ∃ v, (w9.setCell ⟨sp, 0, none⟩ (.int .i64 on)).setCell ⟨sp, 1, none⟩ (.int .i64 oe) = v := ⟨_, rfl⟩
                rw [hwz] at hst hbs hks
                have HST := Lib.hid hst
                have HBS := Lib.hid hbs
                have HKS := Lib.hid hks
                have HK9 := Lib.hid (HKX.out.trans' hk9)
                clear hk9 hb9 hst hbs hks hwz HAT2
                clear q0 q1 q2 q3 q4 q5 q6 q7 q8
                go_wp2_with (refine wpl_store (by first | rfl | go_simp) 37 _ _ rfl _ _ (by go_simp) (by go_simp) HST.out ?_; go_simp)
                go_roundw
                case rel => exact ⟨i + 1, F', by omega, by go_num, by rw [HLS.out]; exact HBS, Lib.hid ((HM3.out.keptNo HK9.out).kept HKS.out (fun k hk e => HFS.out (e ▸ hk))), Lib.hid ⟨(HU2.out.kp.transNo HK9.out).trans HKS.out (fun k hk e => by have := HSW.out; omega), HU2.out.foot⟩, HFS⟩
                case measure => simp [intOf]; omega
              case false =>
                have hcw : l.length ≤ c := by
                  obtain ⟨_, _, he, h1, _⟩ := HL.out
                  simp only [List.cons.injEq, Value.slice.injEq, and_true] at he
                  omega
                have hci : c ≠ i := by omega
                have hic1 : i + 1 ≤ c := by omega
                go_upto_region 14 with fail
                obtain ⟨j1, hj1⟩ : ∃ v, i + 1 = v := ⟨_, rfl⟩
                have hwr : IntKind.i64.wrap ((i : Int) + 1) = (j1 : Int) := by
                  have e : (i : Int) + 1 = (j1 : Int) := by omega
                  rw [e]
                  simp [IntKind.wrap, IntKind.bits, IntKind.signed]
                  omega
                have hj0 : (0 : Int) ≤ (j1 : Int) := by omega
                have hjc : (j1 : Int) ≤ (c : Int) := by omega
                have hij : i ≤ j1 := by omega
                have hjs : j1 - i = 1 := by omega
                obtain ⟨wd, hwd⟩ : ∃ v, wc.drew = v := ⟨_, rfl⟩
                have hkd : Kp No wc wd := by rw [← hwd]; exact (Kp.refl _ _).drew
                obtain ⟨lv, av, S, hin, hft⟩ := HM2.out.keptNo (HKX.out.trans' hkd)
                obtain ⟨Av, cv, hlv⟩ := hin.lin.shape
                subst hlv
                have k0 : wd.cell? ⟨r, 0, none⟩ = some _ := Blk.cell hin.blk rfl
                have hbs := HB2.out.kept (HKX.out.trans' hkd) (fun z => z)
                have s0 : wd.cell? ⟨sp, 0, none⟩ = some _ := Blk.cell hbs rfl
                have s1 : wd.cell? ⟨sp, 1, none⟩ = some _ := Blk.cell hbs rfl
                have HIN := Lib.hid hin
                have HFT := Lib.hid hft
                have HKD := Lib.hid (HKX.out.trans' hkd)
                clear hin hft hkd hbs
                refine Reg.wp_region_plan [⟨0, false, []⟩, ⟨1, false, []⟩, ⟨2, false, []⟩, ⟨3, false, []⟩, ⟨4, false, []⟩, ⟨5, false, []⟩, ⟨6, false, []⟩, ⟨7, false, []⟩, ⟨8, false, []⟩, ⟨9, false, []⟩, ⟨13, false, []⟩, ⟨10, true, [2, 3, 4, 13]⟩, ⟨11, false, []⟩, ⟨12, false, []⟩, ⟨14, false, []⟩, ⟨15, true, [2, 3, 4]⟩, ⟨16, true, []⟩, ⟨17, false, []⟩, ⟨18, false, []⟩, ⟨19, true, []⟩] rfl (by kernel_rfl) ?_
                rw [hwd]
                clear hwd
                have HCUT : Hid (Rp.opl.slice.R wd SO [.slice (some (ad.add (i * 9))) 1 (c - i)] [⟨on, oe, okd, os, oc, oq, onm, osz, ohs⟩]) := Lib.hid (by
                  have h1 := Rp.head (Rp.cut (Rp.opl.slice.keptNo (Rp.opl.slice.kept HL.out HU2.out.kp (fun k hk _ => (HSO.out k hk).2)) HKD.out) (show i ≤ l.length by omega)) (k := 1) (by rw [List.length_drop]; omega)
                  obtain ⟨e1, e2⟩ := List.getElem?_eq_some_iff.1 HLO.out
                  have h2 : (l.drop i).take 1 = [⟨on, oe, okd, os, oc, oq, onm, osz, ohs⟩] := by rw [List.drop_eq_getElem_cons e1, e2]; rfl
                  rw [h2] at h1
                  exact h1)
                have HOH := Lib.hid (HSM.out _ (List.mem_of_getElem? HLO.out))
                have HOO := Lib.hid (r_ownops [⟨on, oe, okd, os, oc, oq, onm, osz, ohs⟩] (some (ad.add (i * 9))) (c - i) wd SO HCUT.out (by simp) (fun o ho => by rw [List.mem_singleton.1 ho]; exact HOH.out))
                clear hj1
                simp only [List.length_singleton] at HOO
                repeat (first | (refine Reg.look rfl rfl rfl (by go_simp; rfl) rfl ?_; go_simp) | (refine Reg.skip rfl rfl rfl ?_; go_simp))
                refine Reg.act rfl ?_
                go_wp2_with fail
                refine HOO.out.mono ?_
                rintro e w7 ⟨A7, c7, rfl, hown7, hk7⟩
                obtain ⟨g7, A8, c8, hA7, hg7, _, hcell7, _, hnum7, hr7⟩ := Own.at_opl hown7 (i := 0) (o := ⟨on, oe, okd, os, oc, oq, onm, osz, ohs⟩) rfl
                subst hA7
                have y0 : w7.cell? ⟨g7, 0, none⟩ = some _ := hcell7 0 _ rfl
                have y1 : w7.cell? ⟨g7, 1, none⟩ = some _ := hcell7 1 _ rfl
                have y2 : w7.cell? ⟨g7, 2, none⟩ = some _ := hcell7 2 _ rfl
                have y3 : w7.cell? ⟨g7, 3, none⟩ = some _ := hcell7 3 _ rfl
                have y4 : w7.cell? ⟨g7, 4, none⟩ = some _ := hcell7 4 _ rfl
                have y5 : w7.cell? ⟨g7, 5, none⟩ = some _ := hcell7 5 _ rfl
                have y6 : w7.cell? ⟨g7, 6, none⟩ = some _ := hcell7 6 _ rfl
                have y7 : w7.cell? ⟨g7, 7, none⟩ = some _ := hcell7 7 _ rfl
                have y8 : w7.cell? ⟨g7, 8, none⟩ = some _ := hcell7 8 _ rfl
                obtain ⟨g8, hg8⟩ : ∃ v, w7.heap.size = v := ⟨_, rfl⟩
                have hlit := line_lit w7 ⟨⟨on, oe, okd, os, oc, oq, onm, osz, ohs⟩, p1, p2⟩ (.slice A8 ohs.length c8) (fun k => wd.heap.size ≤ k ∧ k < g8 + 1) (by rw [hg8]; exact ⟨by have := hk7.size; omega, by omega⟩) ⟨hnum7, (by have := lastP_I64 (l := l.take i) (fun q hq => opl_nums (Rp.opl.slice.kept HL.out HU2.out.kp (fun k hk _ => (HSO.out k hk).2)) q (List.mem_of_mem_take hq)); rw [HPP.out] at this; exact this)⟩ (Rp.str.slice.more hr7 (fun k hk => ⟨hk.1, by have := hk.2.1; omega⟩))
                obtain ⟨w8, hw8⟩ : ∃ v, w7.alloc (.cells #[.int .i64 on, .int .i64 oe, .int .i64 okd, .int .i64 os, .int .i64 oc, .int .i64 oq, .string onm, .int .i64 osz, .slice A8 ohs.length c8, .int .i64 p1, .int .i64 p2] 76) = v := ⟨_, rfl⟩
                have hk8 : Kp No w7 w8 := by rw [← hw8]; exact (Kp.refl _ _).alloc _
                have hsz8 : w8.heap.size = g8 + 1 := by rw [← hw8, ← hg8]; simp
                rw [hg8] at hlit
                have hlit2 : Rp.line.slice.R w8 (fun k => wd.heap.size ≤ k ∧ k < g8 + 1) [.slice (some ⟨g8, 0, none⟩) 1 1] [⟨⟨on, oe, okd, os, oc, oq, onm, osz, ohs⟩, p1, p2⟩] := by rw [← hw8]; exact hlit
                have HLIT := Lib.hid hlit2
                have HK7 := Lib.hid hk7
                have HK8 := Lib.hid (hk7.trans' hk8)
                have HS8 := Lib.hid hsz8
                have HBS := Lib.hid (HB2.out.kept (HKD.out.trans' hk7) (fun z => z))
                clear hown7 hcell7 hnum7 hr7 hg7 hlit hlit2 hk8 hsz8 k0 s0 s1 HOO hk7
                have k0 : w7.cell? ⟨r, 0, none⟩ = some _ := Blk.cell (HIN.out.blk.kept HK7.out (fun z => z)) rfl
                have s0 : w7.cell? ⟨sp, 0, none⟩ = some _ := Blk.cell HBS.out rfl
                have s1 : w7.cell? ⟨sp, 1, none⟩ = some _ := Blk.cell HBS.out rfl
                go_wp2_with fail
                (refine ⟨?anew, ?_⟩; case anew => ((repeat (refine Reg.anew_cons rfl rfl (fun _ => by go_simp) ?_)); exact Reg.anew_nil))
                repeat (first | (refine Reg.look rfl rfl rfl (by go_simp; rfl) rfl ?_; go_simp) | (refine Reg.skip rfl rfl rfl ?_; go_simp))
                refine Reg.act rfl ?_
                go_wp2_with fail
                clear k0 s0 s1 y0 y1 y2 y3 y4 y5 y6 y7 y8 hw8 hg8
                have hin8 := HIN.out.keptNo HK8.out
                have k0 : w8.cell? ⟨r, 0, none⟩ = some _ := Blk.cell hin8.blk rfl
                have HIN8 := Lib.hid hin8
                clear hin8
                (refine ⟨?anew, ?_⟩; case anew => ((repeat (refine Reg.anew_cons rfl rfl (fun _ => by go_simp) ?_)); exact Reg.anew_nil))
                repeat (first | (refine Reg.look rfl rfl rfl (by go_simp; rfl) rfl ?_; go_simp) | (refine Reg.skip rfl rfl rfl ?_; go_simp))
                refine Reg.act rfl ?_
                refine wpList_append_rp (E := Rp.line) rfl _ (.tmp 62) (.tmp 73) 28 rfl 0 76 112 el_line26 (fun k => S k ∨ (wd.heap.size ≤ k ∧ k < g8 + 1)) (.slice Av Ri.lines.length cv) Ri.lines rfl (HIN8.out.lin.mono (Nat.le_refl _) (fun _ h => .inl h)) (some ⟨g8, 0, none⟩) 1 (fun k => S k ∨ (wd.heap.size ≤ k ∧ k < g8 + 1)) [⟨⟨on, oe, okd, os, oc, oq, onm, osz, ohs⟩, p1, p2⟩] rfl (Rp.line.slice.more HLIT.out (fun _ h => .inr h)) Rp.line_one ?hcap ?hby (Nat.zero_le _) (fun _ h => h) ?hsv ?_
                case hcap => have := HRN.out; simp [maxLen]; omega
                case hby => have := HRN.out; simp; omega
                case hsv =>
                  intro k hk e
                  rcases e with e | e
                  · exact HIN8.out.sl k e hk
                  · have := (HIN.out.lin.lt k hk).2; have := e.1; omega
                intro lv2 w9 hown hgr hbl
                have HX : Hid (∃ F2, RMAt (w9.setCell ⟨r, 0, none⟩ lv2) r { R with lines := addR R.lines (D.take (i + 1)) } F2 ∧ Upd F w (w9.setCell ⟨r, 0, none⟩ lv2) F2 ∧ ¬ F2 sp ∧ Kp F' wr (w9.setCell ⟨r, 0, none⟩ lv2)) := Lib.hid (by
                  have hin8 := HIN8.out
                  have hrl : r < wd.heap.size := Blk.lt HIN.out.blk
                  have hs8 := HS8.out
                  have hwd8 : wd.heap.size ≤ w8.heap.size := HK8.out.size
                  have hk9 : Kp (fun k => (Value.slice Av Ri.lines.length cv).ownBlock = some k) w8 w9 := (Kp.refl _ _).grown hgr (fun g hg _ => hg)
                  have hbm := hin8.blk.kept hk9 hin8.lr
                  have hk10 : Kp (· = r) w9 (w9.setCell ⟨r, 0, none⟩ lv2) := (Kp.refl (· = r) w9).setCell (p := ⟨r, 0, none⟩) (fun _ => rfl) _
                  have hob : ∀ k, lv2.ownBlock = some k → (Value.slice Av Ri.lines.length cv).ownBlock = some k ∨ k = w8.heap.size := fun k hk => by
                    rcases hbl with h | h
                    · exact .inl (h ▸ hk)
                    · rw [h] at hk; injection hk with hk; exact .inr hk.symm
                  have hll9 : ∀ k, (Value.slice Av Ri.lines.length cv).ownBlock = some k → k < wd.heap.size := fun k hk => (HIN.out.lin.lt k hk).2
                  have hal9 : ∀ k, av.ownBlock = some k → k < wd.heap.size := fun k hk => (HIN.out.ask.lt k hk).2
                  have hfp : ∀ k, F' k → k < wr.heap.size := fun k hk => HM2.out.lt hk
                  have hwrd : wr.heap.size ≤ wd.heap.size := HKD.out.size
                  have hkF : Kp F' wr (w9.setCell ⟨r, 0, none⟩ lv2) := (((HKD.out.trans' HK8.out).any (S := F')).trans hk9 (fun k _ h => (HFT.out k).2 (.inr (.inl h)))).trans hk10 (fun k _ h => (HFT.out k).2 (.inl h))
                  have hin9 : RMIn (w9.setCell ⟨r, 0, none⟩ lv2) r lv2 av (fun k => S k ∨ (wd.heap.size ≤ k ∧ k < g8 + 1)) { Ri with lines := Ri.lines ++ [⟨⟨on, oe, okd, os, oc, oq, onm, osz, ohs⟩, p1, p2⟩] } := by
                    refine ⟨Blk.set hbm 0 lv2, hown.kept hk10 (fun k hs _ e => ?_) (fun k hv e => ?_), (hin8.ask.kept hk9 (fun _ hs _ _ => hs) (fun k hv h => hin8.la k h hv)).kept hk10 (fun _ hs _ _ => hs) (fun k hv e => hin8.ar (e ▸ hv)), ?_, ?_, hin8.ar, ?_, ?_, ?_⟩
                    · rcases hs with h | h
                      · exact hin8.sr (e ▸ h)
                      · have := h.1; omega
                    · rcases hob k hv with h | h
                      · exact hin8.lr (e ▸ h)
                      · omega
                    · rintro (h | h)
                      · exact hin8.sr h
                      · have := h.1; omega
                    · intro h
                      rcases hob r h with h | h
                      · exact hin8.lr h
                      · omega
                    · rintro k (h | h) e
                      · rcases hob k e with h2 | h2
                        · exact hin8.sl k h h2
                        · have := hin8.hi k h; omega
                      · rcases hob k e with h2 | h2
                        · have := hll9 k h2; have := h.1; omega
                        · have := h.2; omega
                    · rintro k (h | h) e
                      · exact hin8.sa k h e
                      · have := hal9 k e; have := h.1; omega
                    · rintro k (h | h)
                      · exact Nat.lt_of_lt_of_le (hin8.hi k h) (Nat.le_trans hk9.size hk10.size)
                      · have h1 := h.2; have h2 := hk9.size; have h3 := hk10.size; omega
                  refine ⟨RFoot r lv2 av (fun k => S k ∨ (wd.heap.size ≤ k ∧ k < g8 + 1)), ⟨lv2, av, _, ?_, fun k => Iff.rfl⟩, ⟨HU2.out.kp.trans hkF (fun k hk hf => (HU2.out.foot k hf).elim id (fun hle => by omega)), ?_⟩, ?_, hkF⟩
                  · rw [HAD.out]
                    have hq : ¬ (findR (LineL.place ⟨⟨on, oe, okd, os, oc, oq, onm, osz, ohs⟩, p1, p2⟩) Ri.lines).isSome = true := by
                      have h : (findR (LineL.place ⟨⟨on, oe, okd, os, oc, oq, onm, osz, ohs⟩, p1, p2⟩) Ri.lines).isSome = false := HTB.out
                      rw [h]; simp
                    unfold add1
                    rw [if_neg hq]
                    have ha : Ri.asks = R.asks := by rw [← HRI.out]
                    rw [← ha]
                    exact hin9
                  · have hww : w.heap.size ≤ wr.heap.size := HU2.out.kp.size
                    rintro k (h | h | h | (h | h))
                    · exact HU2.out.foot k ((HFT.out k).2 (.inl h))
                    · rcases hob k h with h | h
                      · exact HU2.out.foot k ((HFT.out k).2 (.inr (.inl h)))
                      · exact .inr (by omega)
                    · exact HU2.out.foot k ((HFT.out k).2 (.inr (.inr (.inl h))))
                    · exact HU2.out.foot k ((HFT.out k).2 (.inr (.inr (.inr h))))
                    · exact .inr (by have := h.1; omega)
                  · have hspl : sp < wr.heap.size := Blk.lt HB2.out
                    rintro (h | h | h | (h | h))
                    · exact HFS.out ((HFT.out sp).2 (.inl h))
                    · rcases hob sp h with h | h
                      · exact HFS.out ((HFT.out sp).2 (.inr (.inl h)))
                      · omega
                    · exact HFS.out ((HFT.out sp).2 (.inr (.inr (.inl h))))
                    · exact HFS.out ((HFT.out sp).2 (.inr (.inr (.inr h))))
                    · have := h.1; omega)
                have hk9 : Kp (fun k => (Value.slice Av Ri.lines.length cv).ownBlock = some k) w8 w9 := (Kp.refl _ _).grown hgr (fun g hg _ => hg)
                have k0' : w9.cell? ⟨r, 0, none⟩ = some _ := Blk.cell (HIN8.out.blk.kept hk9 HIN8.out.lr) rfl
                have f0 := Blk.fr (HIN8.out.blk.kept hk9 HIN8.out.lr) 0
                obtain ⟨A2, c2, hsh⟩ := hown.shape
                obtain ⟨n2, hn2⟩ : ∃ v, (Ri.lines ++ [(⟨⟨on, oe, okd, os, oc, oq, onm, osz, ohs⟩, p1, p2⟩ : LineL)]).length = v := ⟨_, rfl⟩
                rw [hn2] at hsh
                clear hown hgr hbl hk9 k0 hn2
                subst hsh
                go_wp2_with fail
                (refine ⟨?anew, ?_⟩; case anew => ((repeat (refine Reg.anew_cons rfl rfl (fun _ => by go_simp) ?_)); exact Reg.anew_nil))
                repeat (first | (refine Reg.look rfl rfl rfl (by go_simp; rfl) rfl ?_; go_simp) | (refine Reg.skip rfl rfl rfl ?_; go_simp))
                refine Reg.act rfl ?_
                go_wp2_with fail
                (refine ⟨?anew, ?_⟩; case anew => ((repeat (refine Reg.anew_cons rfl rfl (fun _ => by go_simp) ?_)); exact Reg.anew_nil))
                repeat (first | (refine Reg.look rfl rfl rfl (by go_simp; rfl) rfl ?_; go_simp) | (refine Reg.skip rfl rfl rfl ?_; go_simp))
                (refine Reg.done ?_; simp only [Exit.then])
                go_upto_region 15 with fail
                clear k0' f0
                obtain ⟨F2, hm2, hu2, hfs2, hkF⟩ := HX.out
                obtain ⟨wx, hwx⟩ : ∃ v, w9.setCell ⟨r, 0, none⟩ (.slice A2 n2 c2) = v := ⟨_, rfl⟩
                rw [hwx] at hm2 hu2 hkF ⊢
                have HM3 := Lib.hid hm2
                have HU3 := Lib.hid hu2
                have HFS3 := Lib.hid hfs2
                have HB2 := Lib.hid (HB2.out.kept hkF HFS.out)
                have HKX : Hid (Kp No wx wx) := Lib.hid (Kp.refl _ _)
                obtain ⟨q0, q1, q2, q3, q4, q5, q6, q7, q8⟩ := opl_cells (HCE.out F' wx hkF (fun k hk hf => (HU2.out.foot k hf).elim (HSO.out k hk).2 (fun hle => by have := (HSO.out k hk).1; omega)))
                have HAT2 := Lib.hid (r_at26 ⟨on, oe, okd, os, oc, oq, onm, osz, ohs⟩ (.slice A' ohs.length c') wx)
                unfold opV spotV at HAT2
                simp only at HAT2
                clear hm2 hu2 hfs2 hkF hwx HX HIN8 HLIT HBS HIN HFT
                go_wp2_with fail
                refine HAT2.out.mono ?_
                rintro e w9 ⟨rfl, hk9⟩
                have hb9 := HB2.out.kept (HKX.out.trans' hk9) (fun z => z)
                have hst := run_store_spot26 w9 sp _ _ on oe hb9
                have hbs : Blk ((w9.setCell ⟨sp, 0, none⟩ (.int .i64 on)).setCell ⟨sp, 1, none⟩ (.int .i64 oe)) sp 37 [.int .i64 on, .int .i64 oe] := Blk.set (Blk.set hb9 0 (.int .i64 on)) 1 (.int .i64 oe)
                have hks : Kp (· = sp) w9 ((w9.setCell ⟨sp, 0, none⟩ (.int .i64 on)).setCell ⟨sp, 1, none⟩ (.int .i64 oe)) := ((Kp.refl (· = sp) w9).setCell (p := ⟨sp, 0, none⟩) (fun _ => rfl) _).setCell (p := ⟨sp, 1, none⟩) (fun _ => rfl) _
                obtain ⟨wz, hwz⟩ : ∃ v, (w9.setCell ⟨sp, 0, none⟩ (.int .i64 on)).setCell ⟨sp, 1, none⟩ (.int .i64 oe) = v := ⟨_, rfl⟩
                rw [hwz] at hst hbs hks
                have HST := Lib.hid hst
                have HBS := Lib.hid hbs
                have HKS := Lib.hid hks
                have HK9 := Lib.hid (HKX.out.trans' hk9)
                clear hk9 hb9 hst hbs hks hwz HAT2
                clear q0 q1 q2 q3 q4 q5 q6 q7 q8
                go_wp2_with (refine wpl_store (by first | rfl | go_simp) 37 _ _ rfl _ _ (by go_simp) (by go_simp) HST.out ?_; go_simp)
                go_roundw
                case rel => exact ⟨i + 1, F2, by omega, by go_num, by rw [HLS.out]; exact HBS, Lib.hid ((HM3.out.keptNo HK9.out).kept HKS.out (fun k hk e => HFS3.out (e ▸ hk))), Lib.hid ⟨(HU3.out.kp.transNo HK9.out).trans HKS.out (fun k hk e => by have := HSW.out; omega), HU3.out.foot⟩, HFS3⟩
                case measure => simp [intOf]; omega
      · skip
        have hany : ¬ D.any (clashR R.lines) = true := by
          intro h
          obtain ⟨b, hb, hc⟩ := List.any_eq_true.1 h
          rw [HNC.out b hb] at hc
          cases hc
        have hP : P = (0, { R with lines := addR R.lines D }) := by rw [HPB.out, if_neg hany]
        subst hP
        clear hany
        go_wp2_with fail
        go_ret
        exact ⟨rfl, HFIN.out⟩
end Go.Proofs.Ytamfgmlhopjppaa
