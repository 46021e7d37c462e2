/-
  Put together: RmA, RmB, RmP.
-/
import Derived.Test.YtamfgmlhopjppaaGK
import Derived.Test.YtamfgmlhopjppaaGE
import Derived.Test.YtamfgmlhopjppaaGF2
import Derived.Test.YtamfgmlhopjppaaGC
namespace Go.Proofs.Ytamfgmlhopjppaa
section
open Go.RowKit Go.ChangeShapes Go.WideShapes Go.ChangeAt

structure RV where
  lines : List LineL
  asks : List AskL
structure RMIn (w : World) (r : Nat) (lv av : Value) (S : Nat → Prop) (R : RV) : Prop where
  blk : Blk w r 31 [lv, av]
  lin : Own Rp.line w S 0 76 lv R.lines
  ask : Own Rp.ask w No 0 34 av R.asks
  sr : ¬ S r
  lr : lv.ownBlock ≠ some r
  ar : av.ownBlock ≠ some r
  sl : ∀ k, S k → lv.ownBlock ≠ some k
  sa : ∀ k, S k → av.ownBlock ≠ some k
  hi : ∀ k, S k → k < w.heap.size
def RFoot (r : Nat) (lv av : Value) (S : Nat → Prop) (k : Nat) : Prop := k = r ∨ lv.ownBlock = some k ∨ av.ownBlock = some k ∨ S k
def RMAt (w : World) (r : Nat) (R : RV) (F : Nat → Prop) : Prop := ∃ lv av S, RMIn w r lv av S R ∧ ∀ k, F k ↔ RFoot r lv av S k
namespace RMIn
variable {w w' : World} {r : Nat} {lv av : Value} {S T : Nat → Prop} {R : RV}
theorem la (h : RMIn w r lv av S R) : ∀ k, lv.ownBlock = some k → av.ownBlock ≠ some k := fun _ hk => h.lin.ne_block h.ask (by decide) hk
theorem kept (h : RMIn w r lv av S R) (hk : Kp T w w') (hT : ∀ k, RFoot r lv av S k → ¬ T k) : RMIn w' r lv av S R :=
  ⟨h.blk.kept hk (hT r (.inl rfl)), h.lin.kept hk (fun k hs _ => hT k (.inr (.inr (.inr hs)))) (fun k hv => hT k (.inr (.inl hv))), h.ask.kept hk (fun _ hs _ _ => hs) (fun k hv => hT k (.inr (.inr (.inl hv)))), h.sr, h.lr, h.ar, h.sl, h.sa, fun k hs => Nat.lt_of_lt_of_le (h.hi k hs) hk.size⟩
theorem keptNo (h : RMIn w r lv av S R) (hk : Kp No w w') : RMIn w' r lv av S R := h.kept hk (fun _ _ z => z)
theorem lt (h : RMIn w r lv av S R) {k : Nat} (hk : RFoot r lv av S k) : k < w.heap.size := by
  rcases hk with rfl | hk | hk | hk
  · exact Blk.lt h.blk
  · exact (h.lin.lt k hk).2
  · exact (h.ask.lt k hk).2
  · exact h.hi k hk
end RMIn
namespace RMAt
variable {w w' : World} {r : Nat} {R : RV} {F T : Nat → Prop}
theorem kept (h : RMAt w r R F) (hk : Kp T w w') (hT : ∀ k, F k → ¬ T k) : RMAt w' r R F := by
  obtain ⟨lv, av, S, h1, h2⟩ := h
  exact ⟨lv, av, S, h1.kept hk (fun k hf => hT k ((h2 k).2 hf)), h2⟩
theorem keptNo (h : RMAt w r R F) (hk : Kp No w w') : RMAt w' r R F := h.kept hk (fun _ _ x => x)
theorem lt (h : RMAt w r R F) {k : Nat} (hk : F k) : k < w.heap.size := by
  obtain ⟨lv, av, S, h1, h2⟩ := h
  exact h1.lt ((h2 k).1 hk)
end RMAt
def findR (p : Int × Int) : List LineL → Option LineL
  | [] => none
  | l :: t => if l.place = p then some l else findR p t
def zeroLine : LineL := ⟨zeroO, 0, 0⟩
theorem findR_drop {p : Int × Int} {ls : List LineL} {i : Nat} {a : LineL} (h : ls[i]? = some a) : findR p (ls.drop i) = if a.place = p then some a else findR p (ls.drop (i + 1)) := by
  obtain ⟨e1, e2⟩ := List.getElem?_eq_some_iff.1 h
  rw [List.drop_eq_getElem_cons e1, e2]
  rfl
set_option maxRecDepth 100000 in
theorem r_at26 (o : OpL) (v : Value) (w : World) : Calls Try.prog 31 #[opV o v] w fun e w' => e = .returned (spotV (o.n, o.epoch)) ∧ Kp No w w' := by
  unfold opV spotV
  obtain ⟨n, ep, k, st, cl, sq, nm, sz, hs⟩ := o
  simp only
  go_enter Try.func31, Try.ntmps31
  go_wp2_with fail
  obtain ⟨w1, hw1⟩ : ∃ w1, w.alloc (.cells #[.int .i64 n, .int .i64 ep, .int .i64 k, .int .i64 st, .int .i64 cl, .int .i64 sq, .string nm, .int .i64 sz, v] 58) = w1 := ⟨_, rfl⟩
  have hk : Kp No w w1 := by rw [← hw1]; exact (Kp.refl _ _).alloc _
  have hsz : w.heap.size + 1 = w1.heap.size := by rw [← hw1]; simp
  rw [hw1, hsz]
  have hb : Blk (w1.alloc (.cells #[.int .i64 n, .int .i64 ep] 37)) w1.heap.size 37 [.int .i64 n, .int .i64 ep] := Blk.new w1 _ _
  exact bodyPost_ret (results_cell_row rfl _ _ w1.heap.size _ _ _ _ rfl hb Try.underlying37 rfl (by kernel_rfl)) rfl ⟨rfl, hk.alloc _⟩
/-- one line of a row of them -/
theorem Own.at_line {w : World} {S : Nat → Prop} {base : Nat} {A : Option Addr} {c : Nat} {l : List LineL} (h : Own Rp.line w S base 76 (.slice A l.length c) l) {i : Nat} {o : LineL} (hi : l[i]? = some o) :
    ∃ g A' c', A = some ⟨g, 0, none⟩ ∧ base ≤ g ∧ (∀ (j : Nat) u, (o.cells (.slice A' o.op.hashes.length c'))[j]? = some u → w.cell? ⟨g, i * 11 + j, none⟩ = some u) ∧ (∀ j, w.frozen? ⟨g, j, none⟩ = false) ∧ o.nums ∧ Rp.str.slice.R w S [.slice A' o.op.hashes.length c'] o.op.hashes := by
  obtain ⟨xs, ⟨h0, h1⟩, h2, h3⟩ := h
  have hlt := (List.getElem?_eq_some_iff.1 hi).1
  rcases h1 with ⟨he, h1⟩ | ⟨g, cap, cur, he, hb, hg, hn, hm, hc, ht⟩
  · omega
  · injection he with he
    subst he
    obtain ⟨v, he2, hnum, hr⟩ : Rp.line.R w S ((xs.drop (i * 11)).take 11) o := h3 i o hi
    obtain ⟨A', c', hv, _⟩ := id hr
    simp only [List.cons.injEq, and_true] at hv
    subst hv
    refine ⟨g, A', c', rfl, hb, fun j u hu => ?_, fun j => by simp [World.frozen?, hg], hnum, hr⟩
    have hj : j < 11 := by have := (List.getElem?_eq_some_iff.1 hu).1; simpa [LineL.cells, OpL.cells] using this
    rw [← he2, List.getElem?_take_of_lt hj, List.getElem?_drop] at hu
    have hlt2 : i * 11 + j < l.length * 11 := by omega
    rw [← ht, List.getElem?_take_of_lt (by exact hlt2), Array.getElem?_toList] at hu
    simp [World.cell?, hg, hu]
theorem run_load_line26 {w : World} {g o : Nat} {a : LineL} {A : Option Addr} {n c : Nat} (h : ∀ (k : Nat) u, (a.cells (.slice A n c))[k]? = some u → w.cell? ⟨g, o + k, none⟩ = some u) :
    (Instr.loadAt 76 (.pointer (some ⟨g, o, none⟩))).run Try.prog w = .ok (lineV a (.slice A n c)) w := by
  have y0 : w.cell? ⟨g, o, none⟩ = some _ := h 0 _ rfl
  have y1 : w.cell? ⟨g, o + 1, none⟩ = some _ := h 1 _ rfl
  have y2 : w.cell? ⟨g, o + 2, none⟩ = some _ := h 2 _ rfl
  have y3 : w.cell? ⟨g, o + 3, none⟩ = some _ := h 3 _ rfl
  have y4 : w.cell? ⟨g, o + 4, none⟩ = some _ := h 4 _ rfl
  have y5 : w.cell? ⟨g, o + 5, none⟩ = some _ := h 5 _ rfl
  have y6 : w.cell? ⟨g, o + 6, none⟩ = some _ := h 6 _ rfl
  have y7 : w.cell? ⟨g, o + 7, none⟩ = some _ := h 7 _ rfl
  have y8 : w.cell? ⟨g, o + 8, none⟩ = some _ := h 8 _ rfl
  have y9 : w.cell? ⟨g, o + 9, none⟩ = some _ := h 9 _ rfl
  have y10 : w.cell? ⟨g, o + 10, none⟩ = some _ := h 10 _ rfl
  clear h
  unfold lineV
  go_simp
theorem run_load_lop26 {w : World} {g o : Nat} {a : LineL} {A : Option Addr} {n c : Nat} (h : ∀ (k : Nat) u, (a.cells (.slice A n c))[k]? = some u → w.cell? ⟨g, o + k, none⟩ = some u) :
    (Instr.loadAt 58 (.pointer (some ⟨g, o, none⟩))).run Try.prog w = .ok (opV a.op (.slice A n c)) w := by
  have y0 : w.cell? ⟨g, o, none⟩ = some _ := h 0 _ rfl
  have y1 : w.cell? ⟨g, o + 1, none⟩ = some _ := h 1 _ rfl
  have y2 : w.cell? ⟨g, o + 2, none⟩ = some _ := h 2 _ rfl
  have y3 : w.cell? ⟨g, o + 3, none⟩ = some _ := h 3 _ rfl
  have y4 : w.cell? ⟨g, o + 4, none⟩ = some _ := h 4 _ rfl
  have y5 : w.cell? ⟨g, o + 5, none⟩ = some _ := h 5 _ rfl
  have y6 : w.cell? ⟨g, o + 6, none⟩ = some _ := h 6 _ rfl
  have y7 : w.cell? ⟨g, o + 7, none⟩ = some _ := h 7 _ rfl
  have y8 : w.cell? ⟨g, o + 8, none⟩ = some _ := h 8 _ rfl
  clear h
  unfold opV
  go_simp
theorem run_store_line26 (w : World) (g o : Nat) (a b : LineL) (A : Option Addr) (n c : Nat) (v : Value) (h : ∀ (k : Nat) u, (b.cells v)[k]? = some u → w.cell? ⟨g, o + k, none⟩ = some u) (hf : ∀ p, w.frozen? ⟨g, p, none⟩ = false) :
    (Instr.storeAt 76 (.pointer (some ⟨g, o, none⟩)) (lineV a (.slice A n c))).run Try.prog w = .ok () (wset w g o (a.cells (.slice A n c))) := by
  have y0 : w.cell? ⟨g, o, none⟩ = some _ := h 0 _ rfl
  have y1 : w.cell? ⟨g, o + 1, none⟩ = some _ := h 1 _ rfl
  have y2 : w.cell? ⟨g, o + 2, none⟩ = some _ := h 2 _ rfl
  have y3 : w.cell? ⟨g, o + 3, none⟩ = some _ := h 3 _ rfl
  have y4 : w.cell? ⟨g, o + 4, none⟩ = some _ := h 4 _ rfl
  have y5 : w.cell? ⟨g, o + 5, none⟩ = some _ := h 5 _ rfl
  have y6 : w.cell? ⟨g, o + 6, none⟩ = some _ := h 6 _ rfl
  have y7 : w.cell? ⟨g, o + 7, none⟩ = some _ := h 7 _ rfl
  have y8 : w.cell? ⟨g, o + 8, none⟩ = some _ := h 8 _ rfl
  have y9 : w.cell? ⟨g, o + 9, none⟩ = some _ := h 9 _ rfl
  have y10 : w.cell? ⟨g, o + 10, none⟩ = some _ := h 10 _ rfl
  clear h
  unfold lineV
  go_simp
  rfl
set_option maxRecDepth 100000 in
set_option maxHeartbeats 8000000 in
theorem r_find26 (p : Int × Int) (r : Nat) (R : RV) (F : Nat → Prop) (w : World) (h : RMAt w r R F) (hl : R.lines.length ≤ 1000000) :
    Calls Try.prog 30 #[.pointer (some ⟨r, 0, none⟩), spotV p] w fun e w' => ∃ A c, e = .returned (.tuple #[lineV ((findR p R.lines).getD zeroLine) (.slice A ((findR p R.lines).getD zeroLine).op.hashes.length c), .bool (findR p R.lines).isSome]) ∧ Rp.str.slice.R w' F [.slice A ((findR p R.lines).getD zeroLine).op.hashes.length c] ((findR p R.lines).getD zeroLine).op.hashes ∧ Kp No w w' := by
  obtain ⟨lv, av, S, hin, hft⟩ := h
  obtain ⟨Av, cv, hlv⟩ := hin.lin.shape
  subst hlv
  obtain ⟨Z, hZ⟩ : ∃ Z, findR p R.lines = Z := ⟨_, rfl⟩
  rw [hZ]
  obtain ⟨at_, hat⟩ : ∃ v, w.heap.size = v := ⟨_, rfl⟩
  obtain ⟨wa, hwa⟩ : ∃ v, w.alloc (.cells #[.int .i64 p.1, .int .i64 p.2] 37) = v := ⟨_, rfl⟩
  have hka : Kp No w wa := by rw [← hwa]; exact (Kp.refl _ _).alloc _
  have hba : Blk wa at_ 37 [.int .i64 p.1, .int .i64 p.2] := by rw [← hwa, ← hat]; exact Blk.new w _ _
  obtain ⟨y, hy⟩ : ∃ v, wa.heap.size = v := ⟨_, rfl⟩
  obtain ⟨wb, hwb⟩ : ∃ v, wa.alloc (.cells #[.int .i64 0, .int .i64 0, .int .i64 0, .int .i64 0, .int .i64 0, .int .i64 0, .string { data := #[] }, .int .i64 0, .slice none 0 0, .int .i64 0, .int .i64 0] 76) = v := ⟨_, rfl⟩
  have hkb : Kp No wa wb := by rw [← hwb]; exact (Kp.refl _ _).alloc _
  have hby : Blk wb y 76 [.int .i64 0, .int .i64 0, .int .i64 0, .int .i64 0, .int .i64 0, .int .i64 0, .string { data := #[] }, .int .i64 0, .slice none 0 0, .int .i64 0, .int .i64 0] := by rw [← hwb, ← hy]; exact Blk.new wa _ _
  have hkk := hka.trans' hkb
  have hi2 := hin.keptNo hkk
  have HIN := Lib.hid hi2
  have HBR := Lib.hid hi2.blk
  have HBA := Lib.hid (hba.kept hkb (fun z => z))
  have HBY := Lib.hid hby
  have HKB := Lib.hid hkk
  have HFT := Lib.hid hft
  have HSW := Lib.hid hin.hi
  have HYW : Hid (w.heap.size ≤ y ∧ at_ < y) := Lib.hid ⟨by rw [← hy]; exact hka.size, by rw [← hy]; exact Blk.lt hba⟩
  have HZ : Hid (findR p (R.lines.drop 0) = Z) := Lib.hid hZ
  obtain ⟨ls, hls⟩ : ∃ v, R.lines = v := ⟨_, rfl⟩
  have HLN : Hid (Own Rp.line wb S 0 76 (.slice Av ls.length cv) ls) := Lib.hid (by rw [← hls]; exact hi2.lin)
  rw [hls] at HBR HZ hl
  have hll : (ls.length : Int) ≤ 1000000 := by omega
  unfold spotV
  clear hin hft hka hba hkb hby hkk hi2 hZ hls
  go_enter Try.func30, Try.ntmps30
  go_wp2_with fail
  clear hwa hwb hat hy
  go_loopw [6] (fun iv wr => ∃ i : Nat, i ≤ ls.length ∧ iv = .int .i64 (i : Int) ∧ Hid (Kp No wb wr) ∧ Hid (findR p (ls.drop i) = Z)) (fun iv _ => ls.length - (intOf iv).toNat)
  case atStart => exact ⟨0, Nat.zero_le _, rfl, Lib.hid (Kp.refl _ _), HZ⟩
  case round =>
    clear HZ
    obtain ⟨i, hi, rfl, HKR, HZ⟩ := hrel
    have k0 : wr.cell? ⟨r, 0, none⟩ = some _ := Blk.cell (HBR.out.kept HKR.out (fun z => z)) rfl
    by_cases hlt : i < ls.length
    case neg =>
      obtain rfl : i = ls.length := by omega
      have hZn : Z = none := by rw [← HZ.out, List.drop_length]; rfl
      subst hZn
      have hb := HBY.out.kept HKR.out (fun z => z)
      have hst := run_store_line26 wr y 0 zeroLine zeroLine none 0 0 (.slice none 0 0) (fun k u hu => by have := hb.cell (i := k) (u := u) hu; simpa using this) (Blk.fr hb)
      have hb4 := wset_blk (vs := zeroLine.cells (.slice none 0 0)) (o := 0) hb
      have hk4 : Kp (· = y) wr (wset wr y 0 (zeroLine.cells (.slice none 0 0))) := wset_kp
      obtain ⟨w4, hw4⟩ : ∃ v, wset wr y 0 (zeroLine.cells (.slice none 0 0)) = v := ⟨_, rfl⟩
      rw [hw4] at hst hb4 hk4
      have HST := Lib.hid hst
      have HB4 : Hid (Blk w4 y 76 (zeroLine.cells (.slice none 0 0))) := Lib.hid hb4
      have HK4 := Lib.hid ((HKB.out.trans' HKR.out).trans hk4 (fun k hk e => by have := HYW.out.1; omega))
      unfold lineV zeroLine zeroO at HST
      clear hb hst hb4 hk4 hw4 hi hlt
      go_wp2_with (refine wpl_store (by first | rfl | go_simp) 76 _ _ rfl _ _ rfl rfl HST.out ?_; go_simp)
      exact bodyPost_ret (results_ctM rfl _ _ y _ _ _ _ rfl HB4.out Try.underlying76 rfl (by kernel_rfl)) rfl ⟨none, 0, rfl, Rp.none_ _ _ _, HK4.out⟩
    case pos =>
      have hli : (i : Int) < (ls.length : Int) := by omega
      obtain ⟨a, ha⟩ : ∃ a, ls[i]? = some a := ⟨_, List.getElem?_eq_getElem hlt⟩
      obtain ⟨g, A', c', hAv, _, hcell, _, hnum, hrd⟩ := HLN.out.at_line ha
      subst hAv
      obtain ⟨wd, hwd⟩ : ∃ v, wr.drew = v := ⟨_, rfl⟩
      have hkd : Kp No wr wd := by rw [← hwd]; exact (Kp.refl _ _).drew
      have HKD := Lib.hid (HKR.out.trans' hkd)
      have hcl : ∀ w', Kp No wb w' → ∀ (j : Nat) u, (a.cells (.slice A' a.op.hashes.length c'))[j]? = some u → w'.cell? ⟨g, i * 11 + j, none⟩ = some u := fun w' hk' j u hu => (hk'.cell (lt_of_cell (hcell j u hu)) (fun z => z)).trans (hcell j u hu)
      have HLO := Lib.hid hcl
      have HLL := Lib.hid (fun w' (hk' : Kp No wb w') => run_load_line26 (hcl w' hk'))
      have HAT := Lib.hid (fun w => r_at26 a.op (.slice A' a.op.hashes.length c') w)
      have HZ2 : Hid (Z = if a.place = p then some a else findR p (ls.drop (i + 1))) := Lib.hid (by rw [← HZ.out, findR_drop ha])
      have HRD := Lib.hid hrd
      have HNU := Lib.hid hnum
      unfold opV spotV at HAT
      clear hkd hcl hcell hnum hrd ha HZ hi
      obtain ⟨⟨on, oe, ok, os, oc, oq, onm, osz, ohs⟩, an, ae⟩ := a
      simp only at HBA HLL HAT HRD HNU HZ2 ⊢
      obtain ⟨p1, p2⟩ := p
      simp only at HBA HZ2 ⊢
      by_cases h1 : on = p1
      case neg =>
        have hb1 : (on == p1) = false := beq_eq_false_iff_ne.2 h1
        have HZ3 : Hid (findR (p1, p2) (ls.drop (i + 1)) = Z) := Lib.hid (by rw [HZ2.out, if_neg (fun e => h1 (congrArg Prod.fst e))])
        clear h1
        go_wp2_with fail
        have k0 : wd.cell? ⟨r, 0, none⟩ = some _ := Blk.cell (HBR.out.kept HKD.out (fun z => z)) rfl
        have s0 : wd.cell? ⟨at_, 0, none⟩ = some _ := Blk.cell (HBA.out.kept HKD.out (fun z => z)) rfl
        have s1 : wd.cell? ⟨at_, 1, none⟩ = some _ := Blk.cell (HBA.out.kept HKD.out (fun z => z)) rfl
        have z0 : wd.cell? ⟨g, i * 11, none⟩ = some _ := HLO.out wd HKD.out 0 _ rfl
        have z1 : wd.cell? ⟨g, i * 11 + 1, none⟩ = some _ := HLO.out wd HKD.out 1 _ rfl
        have z2 : wd.cell? ⟨g, i * 11 + 2, none⟩ = some _ := HLO.out wd HKD.out 2 _ rfl
        have z3 : wd.cell? ⟨g, i * 11 + 3, none⟩ = some _ := HLO.out wd HKD.out 3 _ rfl
        have z4 : wd.cell? ⟨g, i * 11 + 4, none⟩ = some _ := HLO.out wd HKD.out 4 _ rfl
        have z5 : wd.cell? ⟨g, i * 11 + 5, none⟩ = some _ := HLO.out wd HKD.out 5 _ rfl
        have z6 : wd.cell? ⟨g, i * 11 + 6, none⟩ = some _ := HLO.out wd HKD.out 6 _ rfl
        have z7 : wd.cell? ⟨g, i * 11 + 7, none⟩ = some _ := HLO.out wd HKD.out 7 _ rfl
        have z8 : wd.cell? ⟨g, i * 11 + 8, none⟩ = some _ := HLO.out wd HKD.out 8 _ rfl
        refine Reg.wp_region_plan [⟨0, false, []⟩, ⟨1, false, []⟩, ⟨2, false, []⟩, ⟨3, false, []⟩, ⟨4, false, []⟩, ⟨5, false, []⟩, ⟨6, false, []⟩, ⟨7, false, []⟩, ⟨9, false, []⟩, ⟨8, true, [9]⟩, ⟨10, false, []⟩] rfl (by kernel_rfl) ?_
        rw [hwd]
        clear hwd
        repeat (first | (refine Reg.look rfl rfl rfl (by go_simp; rfl) rfl ?_; go_simp) | (refine Reg.skip rfl rfl rfl ?_; go_simp))
        refine Reg.act rfl ?_
        go_wp2_with fail
        refine (HAT.out wd).mono ?_
        rintro e w5 ⟨rfl, hk5⟩
        have HK5 := Lib.hid (HKD.out.trans' hk5)
        clear hk5 k0 s0 s1 z0 z1 z2 z3 z4 z5 z6 z7 z8 HAT
        have k0 : w5.cell? ⟨r, 0, none⟩ = some _ := Blk.cell (HBR.out.kept HK5.out (fun z => z)) rfl
        have s0 : w5.cell? ⟨at_, 0, none⟩ = some _ := Blk.cell (HBA.out.kept HK5.out (fun z => z)) rfl
        have s1 : w5.cell? ⟨at_, 1, none⟩ = some _ := Blk.cell (HBA.out.kept HK5.out (fun z => z)) rfl
        have z0 : w5.cell? ⟨g, i * 11, none⟩ = some _ := HLO.out w5 HK5.out 0 _ rfl
        have z1 : w5.cell? ⟨g, i * 11 + 1, none⟩ = some _ := HLO.out w5 HK5.out 1 _ rfl
        have z2 : w5.cell? ⟨g, i * 11 + 2, none⟩ = some _ := HLO.out w5 HK5.out 2 _ rfl
        have z3 : w5.cell? ⟨g, i * 11 + 3, none⟩ = some _ := HLO.out w5 HK5.out 3 _ rfl
        have z4 : w5.cell? ⟨g, i * 11 + 4, none⟩ = some _ := HLO.out w5 HK5.out 4 _ rfl
        have z5 : w5.cell? ⟨g, i * 11 + 5, none⟩ = some _ := HLO.out w5 HK5.out 5 _ rfl
        have z6 : w5.cell? ⟨g, i * 11 + 6, none⟩ = some _ := HLO.out w5 HK5.out 6 _ rfl
        have z7 : w5.cell? ⟨g, i * 11 + 7, none⟩ = some _ := HLO.out w5 HK5.out 7 _ rfl
        have z8 : w5.cell? ⟨g, i * 11 + 8, none⟩ = some _ := HLO.out w5 HK5.out 8 _ rfl
        go_wp2_with fail
        (refine ⟨?anew, ?_⟩; case anew => ((repeat (refine Reg.anew_cons rfl rfl (fun _ => by go_simp) ?_)); exact Reg.anew_nil))
        repeat (first | (refine Reg.look rfl rfl rfl (by go_simp; rfl) rfl ?_; go_simp) | (refine Reg.skip rfl rfl rfl ?_; go_simp))
        (refine Reg.done ?_; simp only [Exit.then])
        go_wp2_with fail
        go_roundw
        case rel => exact ⟨i + 1, by omega, by go_num, HK5, HZ3⟩
        case measure => simp [intOf]; omega
      case pos =>
        by_cases h2 : oe = p2
        case neg =>
          have hb1 : (on == p1) = true := beq_iff_eq.2 h1
          have hb2 : (oe == p2) = false := beq_eq_false_iff_ne.2 h2
          have HZ3 : Hid (findR (p1, p2) (ls.drop (i + 1)) = Z) := Lib.hid (by rw [HZ2.out, if_neg (fun e => h2 (congrArg Prod.snd e))])
          clear h1 h2
          go_wp2_with fail
          have k0 : wd.cell? ⟨r, 0, none⟩ = some _ := Blk.cell (HBR.out.kept HKD.out (fun z => z)) rfl
          have s0 : wd.cell? ⟨at_, 0, none⟩ = some _ := Blk.cell (HBA.out.kept HKD.out (fun z => z)) rfl
          have s1 : wd.cell? ⟨at_, 1, none⟩ = some _ := Blk.cell (HBA.out.kept HKD.out (fun z => z)) rfl
          have z0 : wd.cell? ⟨g, i * 11, none⟩ = some _ := HLO.out wd HKD.out 0 _ rfl
          have z1 : wd.cell? ⟨g, i * 11 + 1, none⟩ = some _ := HLO.out wd HKD.out 1 _ rfl
          have z2 : wd.cell? ⟨g, i * 11 + 2, none⟩ = some _ := HLO.out wd HKD.out 2 _ rfl
          have z3 : wd.cell? ⟨g, i * 11 + 3, none⟩ = some _ := HLO.out wd HKD.out 3 _ rfl
          have z4 : wd.cell? ⟨g, i * 11 + 4, none⟩ = some _ := HLO.out wd HKD.out 4 _ rfl
          have z5 : wd.cell? ⟨g, i * 11 + 5, none⟩ = some _ := HLO.out wd HKD.out 5 _ rfl
          have z6 : wd.cell? ⟨g, i * 11 + 6, none⟩ = some _ := HLO.out wd HKD.out 6 _ rfl
          have z7 : wd.cell? ⟨g, i * 11 + 7, none⟩ = some _ := HLO.out wd HKD.out 7 _ rfl
          have z8 : wd.cell? ⟨g, i * 11 + 8, none⟩ = some _ := HLO.out wd HKD.out 8 _ rfl
          refine Reg.wp_region_plan [⟨0, false, []⟩, ⟨1, false, []⟩, ⟨2, false, []⟩, ⟨3, false, []⟩, ⟨4, false, []⟩, ⟨5, false, []⟩, ⟨6, false, []⟩, ⟨7, false, []⟩, ⟨9, false, []⟩, ⟨8, true, [9]⟩, ⟨10, false, []⟩] rfl (by kernel_rfl) ?_
          rw [hwd]
          clear hwd
          repeat (first | (refine Reg.look rfl rfl rfl (by go_simp; rfl) rfl ?_; go_simp) | (refine Reg.skip rfl rfl rfl ?_; go_simp))
          refine Reg.act rfl ?_
          go_wp2_with fail
          refine (HAT.out wd).mono ?_
          rintro e w5 ⟨rfl, hk5⟩
          have HK5 := Lib.hid (HKD.out.trans' hk5)
          clear hk5 k0 s0 s1 z0 z1 z2 z3 z4 z5 z6 z7 z8 HAT
          have k0 : w5.cell? ⟨r, 0, none⟩ = some _ := Blk.cell (HBR.out.kept HK5.out (fun z => z)) rfl
          have s0 : w5.cell? ⟨at_, 0, none⟩ = some _ := Blk.cell (HBA.out.kept HK5.out (fun z => z)) rfl
          have s1 : w5.cell? ⟨at_, 1, none⟩ = some _ := Blk.cell (HBA.out.kept HK5.out (fun z => z)) rfl
          have z0 : w5.cell? ⟨g, i * 11, none⟩ = some _ := HLO.out w5 HK5.out 0 _ rfl
          have z1 : w5.cell? ⟨g, i * 11 + 1, none⟩ = some _ := HLO.out w5 HK5.out 1 _ rfl
          have z2 : w5.cell? ⟨g, i * 11 + 2, none⟩ = some _ := HLO.out w5 HK5.out 2 _ rfl
          have z3 : w5.cell? ⟨g, i * 11 + 3, none⟩ = some _ := HLO.out w5 HK5.out 3 _ rfl
          have z4 : w5.cell? ⟨g, i * 11 + 4, none⟩ = some _ := HLO.out w5 HK5.out 4 _ rfl
          have z5 : w5.cell? ⟨g, i * 11 + 5, none⟩ = some _ := HLO.out w5 HK5.out 5 _ rfl
          have z6 : w5.cell? ⟨g, i * 11 + 6, none⟩ = some _ := HLO.out w5 HK5.out 6 _ rfl
          have z7 : w5.cell? ⟨g, i * 11 + 7, none⟩ = some _ := HLO.out w5 HK5.out 7 _ rfl
          have z8 : w5.cell? ⟨g, i * 11 + 8, none⟩ = some _ := HLO.out w5 HK5.out 8 _ rfl
          go_wp2_with fail
          (refine ⟨?anew, ?_⟩; case anew => ((repeat (refine Reg.anew_cons rfl rfl (fun _ => by go_simp) ?_)); exact Reg.anew_nil))
          repeat (first | (refine Reg.look rfl rfl rfl (by go_simp; rfl) rfl ?_; go_simp) | (refine Reg.skip rfl rfl rfl ?_; go_simp))
          (refine Reg.done ?_; simp only [Exit.then])
          go_wp2_with fail
          go_roundw
          case rel => exact ⟨i + 1, by omega, by go_num, HK5, HZ3⟩
          case measure => simp [intOf]; omega
        case pos =>
          have hb1 : (on == p1) = true := beq_iff_eq.2 h1
          have hb2 : (oe == p2) = true := beq_iff_eq.2 h2
          have hZs : Z = some ⟨⟨on, oe, ok, os, oc, oq, onm, osz, ohs⟩, an, ae⟩ := by rw [HZ2.out, if_pos (by show (on, oe) = (p1, p2); rw [h1, h2])]
          subst hZs
          clear h1 h2
          go_wp2_with fail
          have k0 : wd.cell? ⟨r, 0, none⟩ = some _ := Blk.cell (HBR.out.kept HKD.out (fun z => z)) rfl
          have s0 : wd.cell? ⟨at_, 0, none⟩ = some _ := Blk.cell (HBA.out.kept HKD.out (fun z => z)) rfl
          have s1 : wd.cell? ⟨at_, 1, none⟩ = some _ := Blk.cell (HBA.out.kept HKD.out (fun z => z)) rfl
          have z0 : wd.cell? ⟨g, i * 11, none⟩ = some _ := HLO.out wd HKD.out 0 _ rfl
          have z1 : wd.cell? ⟨g, i * 11 + 1, none⟩ = some _ := HLO.out wd HKD.out 1 _ rfl
          have z2 : wd.cell? ⟨g, i * 11 + 2, none⟩ = some _ := HLO.out wd HKD.out 2 _ rfl
          have z3 : wd.cell? ⟨g, i * 11 + 3, none⟩ = some _ := HLO.out wd HKD.out 3 _ rfl
          have z4 : wd.cell? ⟨g, i * 11 + 4, none⟩ = some _ := HLO.out wd HKD.out 4 _ rfl
          have z5 : wd.cell? ⟨g, i * 11 + 5, none⟩ = some _ := HLO.out wd HKD.out 5 _ rfl
          have z6 : wd.cell? ⟨g, i * 11 + 6, none⟩ = some _ := HLO.out wd HKD.out 6 _ rfl
          have z7 : wd.cell? ⟨g, i * 11 + 7, none⟩ = some _ := HLO.out wd HKD.out 7 _ rfl
          have z8 : wd.cell? ⟨g, i * 11 + 8, none⟩ = some _ := HLO.out wd HKD.out 8 _ rfl
          refine Reg.wp_region_plan [⟨0, false, []⟩, ⟨1, false, []⟩, ⟨2, false, []⟩, ⟨3, false, []⟩, ⟨4, false, []⟩, ⟨5, false, []⟩, ⟨6, false, []⟩, ⟨7, false, []⟩, ⟨9, false, []⟩, ⟨8, true, [9]⟩, ⟨10, false, []⟩] rfl (by kernel_rfl) ?_
          rw [hwd]
          clear hwd
          repeat (first | (refine Reg.look rfl rfl rfl (by go_simp; rfl) rfl ?_; go_simp) | (refine Reg.skip rfl rfl rfl ?_; go_simp))
          refine Reg.act rfl ?_
          go_wp2_with fail
          refine (HAT.out wd).mono ?_
          rintro e w5 ⟨rfl, hk5⟩
          have HK5 := Lib.hid (HKD.out.trans' hk5)
          clear hk5 k0 s0 s1 z0 z1 z2 z3 z4 z5 z6 z7 z8 HAT
          have k0 : w5.cell? ⟨r, 0, none⟩ = some _ := Blk.cell (HBR.out.kept HK5.out (fun z => z)) rfl
          have s0 : w5.cell? ⟨at_, 0, none⟩ = some _ := Blk.cell (HBA.out.kept HK5.out (fun z => z)) rfl
          have s1 : w5.cell? ⟨at_, 1, none⟩ = some _ := Blk.cell (HBA.out.kept HK5.out (fun z => z)) rfl
          have z0 : w5.cell? ⟨g, i * 11, none⟩ = some _ := HLO.out w5 HK5.out 0 _ rfl
          have z1 : w5.cell? ⟨g, i * 11 + 1, none⟩ = some _ := HLO.out w5 HK5.out 1 _ rfl
          have z2 : w5.cell? ⟨g, i * 11 + 2, none⟩ = some _ := HLO.out w5 HK5.out 2 _ rfl
          have z3 : w5.cell? ⟨g, i * 11 + 3, none⟩ = some _ := HLO.out w5 HK5.out 3 _ rfl
          have z4 : w5.cell? ⟨g, i * 11 + 4, none⟩ = some _ := HLO.out w5 HK5.out 4 _ rfl
          have z5 : w5.cell? ⟨g, i * 11 + 5, none⟩ = some _ := HLO.out w5 HK5.out 5 _ rfl
          have z6 : w5.cell? ⟨g, i * 11 + 6, none⟩ = some _ := HLO.out w5 HK5.out 6 _ rfl
          have z7 : w5.cell? ⟨g, i * 11 + 7, none⟩ = some _ := HLO.out w5 HK5.out 7 _ rfl
          have z8 : w5.cell? ⟨g, i * 11 + 8, none⟩ = some _ := HLO.out w5 HK5.out 8 _ rfl
          go_wp2_with fail
          (refine ⟨?anew, ?_⟩; case anew => ((repeat (refine Reg.anew_cons rfl rfl (fun _ => by go_simp) ?_)); exact Reg.anew_nil))
          repeat (first | (refine Reg.look rfl rfl rfl (by go_simp; rfl) rfl ?_; go_simp) | (refine Reg.skip rfl rfl rfl ?_; go_simp))
          (refine Reg.done ?_; simp only [Exit.then])
          have hb := HBY.out.kept HK5.out (fun z => z)
          have hst := run_store_line26 w5 y 0 ⟨⟨on, oe, ok, os, oc, oq, onm, osz, ohs⟩, an, ae⟩ zeroLine A' ohs.length c' (.slice none 0 0) (fun k u hu => by have := hb.cell (i := k) (u := u) hu; simpa using this) (Blk.fr hb)
          have hb4 := wset_blk (vs := (⟨⟨on, oe, ok, os, oc, oq, onm, osz, ohs⟩, an, ae⟩ : LineL).cells (.slice A' ohs.length c')) (o := 0) hb
          have hk4 : Kp (· = y) w5 (wset w5 y 0 ((⟨⟨on, oe, ok, os, oc, oq, onm, osz, ohs⟩, an, ae⟩ : LineL).cells (.slice A' ohs.length c'))) := wset_kp
          obtain ⟨w4, hw4⟩ : ∃ v, wset w5 y 0 ((⟨⟨on, oe, ok, os, oc, oq, onm, osz, ohs⟩, an, ae⟩ : LineL).cells (.slice A' ohs.length c')) = v := ⟨_, rfl⟩
          rw [hw4] at hst hb4 hk4
          have HST := Lib.hid hst
          have HB4 : Hid (Blk w4 y 76 ((⟨⟨on, oe, ok, os, oc, oq, onm, osz, ohs⟩, an, ae⟩ : LineL).cells (.slice A' ohs.length c'))) := Lib.hid hb4
          have HK4 := Lib.hid ((HKB.out.trans' HK5.out).trans hk4 (fun k hk e => by have := HYW.out.1; omega))
          have hll := HLL.out w5 HK5.out
          have HLD := Lib.hid hll
          have HR4 := Lib.hid (Rp.str.slice.more (Rp.str.slice.kept (Rp.str.slice.keptNo HRD.out HK5.out) hk4 (fun k hk _ e => by have := HSW.out k hk; have := HYW.out.1; omega)) (fun k hk => (HFT.out k).2 (.inr (.inr (.inr hk)))))
          unfold lineV at HST HLD
          clear hb hst hb4 hk4 hw4 hll z0 z1 z2 z3 z4 z5 z6 z7 z8 s0 s1 hb1 hb2 HZ2 HLO HLL
          go_wp2_with (first | (refine wpl_load (by first | rfl | go_simp) 76 _ rfl _ _ (by go_simp) HLD.out ?_; go_simp) | (refine wpl_store (by first | rfl | go_simp) 76 _ _ rfl _ _ (by go_simp) (by go_simp) HST.out ?_; go_simp))
          exact bodyPost_ret (results_ctM rfl _ _ y _ _ _ _ rfl HB4.out Try.underlying76 rfl (by kernel_rfl)) rfl ⟨A', c', rfl, HR4.out, HK4.out⟩
end

section
open Go.RowKit Go.ChangeShapes Go.WideShapes Go.ChangeAt

set_option maxRecDepth 100000 in
set_option maxHeartbeats 4000000 in
theorem r_asked26 (a : AskL) (m : Nat) (M : RV) (F : Nat → Prop) (w : World) (hM : RMAt w m M F) (hn : a.nums) (hl : M.asks.length ≤ 1000000) :
    Calls Try.prog 11 #[.pointer (some ⟨m, 0, none⟩), askV a] w fun e w' => e = .returned (.tuple #[]) ∧ ∃ F', RMAt w' m (if a.kind = 1 then { M with asks := M.asks ++ [a] } else M) F' ∧ Upd F w w' F' := by
  obtain ⟨y, hy⟩ : ∃ v, w.heap.size = v := ⟨_, rfl⟩
  obtain ⟨wa, hwa⟩ : ∃ v, w.alloc (.cells #[.int .i64 a.kind, .int .i64 a.client, .int .i64 a.seq, .string a.name, .string a.data, .int .i64 a.mode, .int .i64 a.lag] 34) = v := ⟨_, rfl⟩
  have hka : Kp No w wa := by rw [← hwa]; exact (Kp.refl _ _).alloc _
  have hba : Blk wa y 34 [.int .i64 a.kind, .int .i64 a.client, .int .i64 a.seq, .string a.name, .string a.data, .int .i64 a.mode, .int .i64 a.lag] := by rw [← hwa, ← hy]; exact Blk.new w _ _
  have y0 : wa.cell? ⟨y, 0, none⟩ = some _ := Blk.cell hba rfl
  have HMA := Lib.hid (hM.keptNo hka)
  have HMW : Hid (∀ k, F k → k < w.heap.size) := Lib.hid (fun k hk => hM.lt hk)
  have HKA := Lib.hid hka
  have HBA := Lib.hid hba
  have HYW : Hid (w.heap.size ≤ y) := Lib.hid (Nat.le_of_eq hy)
  by_cases h1 : a.kind = 1
  case neg =>
    have hkb : (a.kind == 1) = false := beq_eq_false_iff_ne.2 h1
    rw [if_neg h1]
    unfold askV
    clear hka hba h1 hM
    go_enter Try.func11, Try.ntmps11
    go_wp2_with fail
    go_end0
    exact ⟨rfl, F, HMA.out, HKA.out.any, fun k hk => .inl hk⟩
  have hkb : (a.kind == 1) = true := beq_iff_eq.2 h1
  rw [if_pos h1]
  obtain ⟨lv, av, S, hin, hft⟩ := HMA.out
  obtain ⟨Av, cv, hav⟩ := hin.ask.shape
  obtain ⟨wd, hwd⟩ : ∃ v, wa.drew = v := ⟨_, rfl⟩
  have hkd : Kp No wa wd := by rw [← hwd]; exact (Kp.refl _ _).drew
  have hbd := hba.kept hkd (fun z => z)
  have hmd := hin.blk.kept hkd (fun z => z)
  obtain ⟨g1, hg1⟩ : ∃ v, wd.heap.size = v := ⟨_, rfl⟩
  obtain ⟨w3, hw3⟩ : ∃ v, wd.alloc (.cells #[.int .i64 a.kind, .int .i64 a.client, .int .i64 a.seq, .string a.name, .string a.data, .int .i64 a.mode, .int .i64 a.lag] 34) = v := ⟨_, rfl⟩
  have hk3 : Kp No wd w3 := by rw [← hw3]; exact (Kp.refl _ _).alloc _
  have hin3 : RMIn w3 m lv av S M := hin.kept (hkd.trans' hk3) (fun k _ h => h)
  have hsrc := ask_lit wd a (fun k => k = g1) hg1 hn
  rw [hg1, hw3] at hsrc
  have hgl : ∀ k, RFoot m lv av S k → k < g1 := fun k hk => by rw [← hg1]; exact Nat.lt_of_lt_of_le (hin.lt hk) hkd.size
  have HIN3 := Lib.hid hin3
  have HSRC := Lib.hid hsrc
  have HGL := Lib.hid hgl
  have HFT := Lib.hid hft
  have HK3 := Lib.hid ((HKA.out.trans' hkd).trans' hk3)
  have HLM := Lib.hid hl
  have k1 : wd.cell? ⟨m, 1, none⟩ = some av := Blk.cell hmd rfl
  have x0 : wd.cell? ⟨y, 0, none⟩ = some _ := Blk.cell hbd rfl
  have x1 : wd.cell? ⟨y, 1, none⟩ = some _ := Blk.cell hbd rfl
  have x2 : wd.cell? ⟨y, 2, none⟩ = some _ := Blk.cell hbd rfl
  have x3 : wd.cell? ⟨y, 3, none⟩ = some _ := Blk.cell hbd rfl
  have x4 : wd.cell? ⟨y, 4, none⟩ = some _ := Blk.cell hbd rfl
  have x5 : wd.cell? ⟨y, 5, none⟩ = some _ := Blk.cell hbd rfl
  have x6 : wd.cell? ⟨y, 6, none⟩ = some _ := Blk.cell hbd rfl
  unfold askV
  subst hav
  clear hka hba hkd hbd hmd hk3 hin3 hsrc hgl hin hft hM hn hl h1
  go_enter Try.func11, Try.ntmps11
  go_wp2_with fail
  clear hwa hy y0
  refine Reg.wp_region_plan [⟨0, false, []⟩, ⟨1, false, []⟩, ⟨2, false, []⟩, ⟨3, false, []⟩, ⟨4, false, []⟩, ⟨5, false, []⟩, ⟨6, true, [2, 3, 4]⟩, ⟨7, true, []⟩, ⟨8, false, []⟩, ⟨9, false, []⟩, ⟨10, true, []⟩] rfl (by kernel_rfl) ?_
  rw [hwd]
  clear hwd
  repeat (first | (refine Reg.look rfl rfl rfl (by go_simp; rfl) rfl ?_; go_simp) | (refine Reg.skip rfl rfl rfl ?_; go_simp))
  refine Reg.act rfl ?_
  go_wp2_with fail
  clear k1 x0 x1 x2 x3 x4 x5 x6 hg1 hw3
  have k1 : w3.cell? ⟨m, 1, none⟩ = some _ := Blk.cell HIN3.out.blk rfl
  (refine ⟨?anew, ?_⟩; case anew => ((repeat (refine Reg.anew_cons rfl rfl (fun _ => by go_simp) ?_)); exact Reg.anew_nil))
  repeat (first | (refine Reg.look rfl rfl rfl (by go_simp; rfl) rfl ?_; go_simp) | (refine Reg.skip rfl rfl rfl ?_; go_simp))
  refine Reg.act rfl ?_
  refine wpList_append_rp (E := Rp.ask) rfl _ (.tmp 11) (.tmp 13) 29 rfl 0 34 72 el_ask (fun k => k = g1) (.slice Av M.asks.length cv) M.asks rfl (HIN3.out.ask.mono (Nat.le_refl _) (fun _ h => h.elim)) (some ⟨g1, 0, none⟩) 1 (fun k => k = g1) [a] rfl HSRC.out Rp.ask_one ?hcap ?hby (Nat.zero_le _) (fun _ h => h) ?hsv ?_
  case hcap => have := HLM.out; simp [maxLen]; omega
  case hby => have := HLM.out; simp; omega
  case hsv => exact fun k hk e => by have := HGL.out k (.inr (.inr (.inl hk))); omega
  intro av2 w4 hown hgr hbl
  have hk4 : Kp (fun k => (Value.slice Av M.asks.length cv).ownBlock = some k) w3 w4 := (Kp.refl _ _).grown hgr (fun g hg _ => hg)
  have hin := HIN3.out
  have hbm := hin.blk.kept hk4 hin.ar
  have k1' : w4.cell? ⟨m, 1, none⟩ = some _ := Blk.cell hbm rfl
  have f1 := Blk.fr hbm 1
  have hk5 : Kp (· = m) w4 (w4.setCell ⟨m, 1, none⟩ av2) := (Kp.refl (· = m) w4).setCell (p := ⟨m, 1, none⟩) (fun _ => rfl) _
  have hg3 : ∀ k, RFoot m lv (.slice Av M.asks.length cv) S k → k < w3.heap.size := fun k hk => hin.lt hk
  have hown2 : Own Rp.ask w4 No 0 34 av2 (M.asks ++ [a]) := by
    obtain ⟨xs, q1, q2, q3⟩ := hown
    exact ⟨xs, q1, q2, fun i a ha => q3 i a ha⟩
  have hob : ∀ k, av2.ownBlock = some k → (Value.slice Av M.asks.length cv).ownBlock = some k ∨ k = w3.heap.size := fun k hk => by
    rcases hbl with h | h
    · exact .inl (h ▸ hk)
    · rw [h] at hk; injection hk with hk; exact .inr hk.symm
  have hmm : m ≠ w3.heap.size := by have := hg3 m (.inl rfl); omega
  have HFIN : Hid (RMIn (w4.setCell ⟨m, 1, none⟩ av2) m lv av2 S { M with asks := M.asks ++ [a] }) := Lib.hid
    ⟨Blk.set hbm 1 av2, (hin.lin.kept hk4 (fun k hs _ => hin.sa k hs) (fun k hv => hin.la k hv)).kept hk5 (fun k hs _ e => hin.sr (e ▸ hs)) (fun k hv e => hin.lr (e ▸ hv)), hown2.kept hk5 (fun _ hs _ _ => hs) (fun k hv e => by
        rcases hob k hv with h | h
        · exact hin.ar (e ▸ h)
        · omega), hin.sr, hin.lr, fun h => (hob m h).elim hin.ar hmm, hin.sl, fun k hs h => (hob k h).elim (hin.sa k hs) (fun e => by have := hin.hi k hs; omega), fun k hs => Nat.lt_of_lt_of_le (hin.hi k hs) (Nat.le_trans hk4.size hk5.size)⟩
  have HUP : Hid (Upd F w (w4.setCell ⟨m, 1, none⟩ av2) (RFoot m lv av2 S)) := Lib.hid ⟨(HK3.out.any.trans hk4 (fun k _ h => (HFT.out k).2 (.inr (.inr (.inl h))))).trans hk5 (fun k _ h => (HFT.out k).2 (.inl h)), fun k hk => by
    rcases hk with h | h | h | h
    · exact .inl ((HFT.out k).2 (.inl h))
    · exact .inl ((HFT.out k).2 (.inr (.inl h)))
    · rcases hob k h with h | h
      · exact .inl ((HFT.out k).2 (.inr (.inr (.inl h))))
      · exact .inr (by have := HK3.out.size; omega)
    · exact .inl ((HFT.out k).2 (.inr (.inr (.inr h))))⟩
  obtain ⟨A2, c2, hsh⟩ := hown.shape
  obtain ⟨n2, hn2⟩ : ∃ v, (M.asks ++ [a]).length = v := ⟨_, rfl⟩
  rw [hn2] at hsh
  clear hown hgr hbl hk4 hin hbm hk5 hg3 hown2 hob hmm k1 hn2
  subst hsh
  go_wp2_with fail
  (refine ⟨?anew, ?_⟩; case anew => ((repeat (refine Reg.anew_cons rfl rfl (fun _ => by go_simp) ?_)); exact Reg.anew_nil))
  repeat (first | (refine Reg.look rfl rfl rfl (by go_simp; rfl) rfl ?_; go_simp) | (refine Reg.skip rfl rfl rfl ?_; go_simp))
  refine Reg.act rfl ?_
  go_wp2_with fail
  (refine ⟨?anew, ?_⟩; case anew => ((repeat (refine Reg.anew_cons rfl rfl (fun _ => by go_simp) ?_)); exact Reg.anew_nil))
  repeat (first | (refine Reg.look rfl rfl rfl (by go_simp; rfl) rfl ?_; go_simp) | (refine Reg.skip rfl rfl rfl ?_; go_simp))
  (refine Reg.done ?_; simp only [Exit.then])
  go_wp2_with fail
  go_end0
  exact ⟨rfl, _, ⟨lv, _, S, HFIN.out, fun k => Iff.rfl⟩, HUP.out⟩
end

section
open Go.RowKit Go.ChangeShapes Go.WideShapes Go.ChangeAt

def clashR (ls : List LineL) (l : LineL) : Bool := match findR l.place ls with
  | none => false
  | some was => !(decide ((was.an, was.ae) = (l.an, l.ae)) && decide (SameP was.op l.op))
def add1 (ls : List LineL) (l : LineL) : List LineL := if (findR l.place ls).isSome = true then ls else ls ++ [l]
def addR (ls m : List LineL) : List LineL := m.foldl add1 ls
theorem addR_snoc (ls m : List LineL) (l : LineL) : addR ls (m ++ [l]) = add1 (addR ls m) l := by simp [addR, List.foldl_append]
def seeR (ops : List OpL) (R : RV) : Int × RV :=
  if rowB 0 0 ops = false then (3, R)
  else if (linedL (0, 0) ops).any (clashR R.lines) = true then (200, R)
  else (0, { R with lines := addR R.lines (linedL (0, 0) ops) })
theorem findR_append (p : Int × Int) (l : LineL) : ∀ ls : List LineL, findR p (ls ++ [l]) = (findR p ls).or (if l.place = p then some l else none)
  | [] => rfl
  | x :: ls => by
    show (if x.place = p then some x else findR p (ls ++ [l])) = (if x.place = p then some x else findR p ls).or _
    rw [findR_append p l ls]
    by_cases h : x.place = p
    · simp only [if_pos h, Option.some_or]
    · simp only [if_neg h]
theorem findR_place {p : Int × Int} : ∀ {ls : List LineL} {x : LineL}, findR p ls = some x → x.place = p ∧ x ∈ ls
  | [], x, h => by cases h
  | y :: ls, x, h => by
    unfold findR at h
    split at h
    · rename_i e
      injection h with h
      subst h
      exact ⟨e, List.mem_cons_self⟩
    · obtain ⟨h1, h2⟩ := findR_place h
      exact ⟨h1, List.mem_cons_of_mem _ h2⟩
theorem findR_add1 (p : Int × Int) (ls : List LineL) (l : LineL) : findR p (add1 ls l) = (findR p ls).or (if l.place = p then some l else none) := by
  unfold add1
  split
  · rename_i h
    obtain ⟨x, hx⟩ := Option.isSome_iff_exists.1 h
    cases hp : findR p ls with
    | some y => rfl
    | none =>
      rw [Option.none_or]
      split
      · rename_i e
        rw [e, hp] at hx
        cases hx
      · rfl
  · exact findR_append p l ls
theorem findR_addR_not {p : Int × Int} : ∀ {m : List LineL} {ls : List LineL}, (∀ a ∈ m, a.place ≠ p) → findR p (addR ls m) = findR p ls
  | [], _, _ => rfl
  | a :: m, ls, h => by
    show findR p (addR (add1 ls a) m) = _
    rw [findR_addR_not (fun b hb => h b (List.mem_cons_of_mem _ hb)), findR_add1, if_neg (h a List.mem_cons_self)]
    cases findR p ls <;> rfl
theorem findR_addR_some {p : Int × Int} {x : LineL} : ∀ {m : List LineL} {ls : List LineL}, findR p ls = some x → findR p (addR ls m) = some x
  | [], _, h => h
  | a :: m, ls, h => findR_addR_some (m := m) (ls := add1 ls a) (by rw [findR_add1, h, Option.some_or])
theorem addR_length : ∀ (m ls : List LineL), (addR ls m).length ≤ ls.length + m.length
  | [], ls => by simp [addR]
  | a :: m, ls => by
    have h1 := addR_length m (add1 ls a)
    have h2 : (add1 ls a).length ≤ ls.length + 1 := by
      unfold add1
      split <;> simp
    show (addR (add1 ls a) m).length ≤ _
    simp only [List.length_cons]
    omega
/-- both models have the same lines -/
def SameL (M : MV) (R : RV) : Prop := ∀ p, mget p M.lines = findR p R.lines
theorem clash_same {M : MV} {R : RV} (h : SameL M R) (hok : OkM M) (l : LineL) : clash M.lines l = clashR R.lines l := by
  unfold clash clashR
  have h1 := h l.place
  cases hm : mget l.place M.lines with
  | none => rw [← h1, hm]
  | some x =>
    rw [← h1, hm]
    simp only
    have hk := hok.key _ _ hm
    have e : decide (EqP x.op l.op) = decide (SameP x.op l.op) := decide_eq_decide.2 ⟨fun hq => ⟨congrArg Prod.fst hk.symm, congrArg Prod.snd hk.symm, hq.1, hq.2.1, hq.2.2.1, hq.2.2.2.1, hq.2.2.2.2.1, hq.2.2.2.2.2.1, hq.2.2.2.2.2.2⟩, fun hq => ⟨hq.2.2.1, hq.2.2.2.1, hq.2.2.2.2.1, hq.2.2.2.2.2.1, hq.2.2.2.2.2.2.1, hq.2.2.2.2.2.2.2.1, hq.2.2.2.2.2.2.2.2⟩⟩
    rw [e]
theorem findR_addR_mem {a : LineL} : ∀ {m : List LineL} {ls : List LineL}, m.Pairwise (fun x y => x.place ≠ y.place) → a ∈ m → findR a.place ls = none → findR a.place (addR ls m) = some a
  | b :: m, ls, hp, h, hn => by
    have hp2 := List.pairwise_cons.1 hp
    show findR a.place (addR (add1 ls b) m) = _
    rcases List.mem_cons.1 h with rfl | h
    · rw [findR_addR_not (fun c hc => (hp2.1 c hc).symm), findR_add1, hn, if_pos rfl, Option.none_or]
    · refine findR_addR_mem hp2.2 h ?_
      rw [findR_add1, hn, if_neg (hp2.1 a h), Option.none_or]
/-- See answers alike, and leaves them alike -/
theorem see_same {M : MV} {R : RV} (h : SameL M R) (hok : OkM M) (ops : List OpL) : (seeL ops M).1 = (seeR ops R).1 ∧ SameL (seeL ops M).2 (seeR ops R).2 ∧ (seeL ops M).2.asks = M.asks ∧ (seeR ops R).2.asks = R.asks := by
  have hc : (linedL (0, 0) ops).any (clash M.lines) = (linedL (0, 0) ops).any (clashR R.lines) := by
    congr 1
    funext l
    exact clash_same h hok l
  by_cases hr : rowB 0 0 ops = false
  · have e1 : seeL ops M = (3, M) := by unfold seeL; rw [if_pos hr]
    have e2 : seeR ops R = (3, R) := by unfold seeR; rw [if_pos hr]
    rw [e1, e2]
    exact ⟨rfl, h, rfl, rfl⟩
  by_cases ha : (linedL (0, 0) ops).any (clash M.lines) = true
  · have e1 : seeL ops M = (200, M) := by unfold seeL; rw [if_neg hr, if_pos ha]
    have e2 : seeR ops R = (200, R) := by unfold seeR; rw [if_neg hr, if_pos (by rw [← hc]; exact ha)]
    rw [e1, e2]
    exact ⟨rfl, h, rfl, rfl⟩
  have e1 : seeL ops M = (0, { M with lines := putAll M.lines (linedL (0, 0) ops) }) := by unfold seeL; rw [if_neg hr, if_neg ha]
  have e2 : seeR ops R = (0, { R with lines := addR R.lines (linedL (0, 0) ops) }) := by unfold seeR; rw [if_neg hr, if_neg (by rw [← hc]; exact ha)]
  obtain ⟨hr2, h1, h2, _⟩ := see_ok hok (show (seeL ops M).1 = 0 by rw [e1])
  have hpw := row_places (row_go hr2)
  rw [e1] at h1 h2
  rw [e1, e2]
  refine ⟨rfl, fun p => ?_, rfl, rfl⟩
  show mget p (putAll M.lines (linedL (0, 0) ops)) = findR p (addR R.lines (linedL (0, 0) ops))
  cases hm : mget p M.lines with
  | some x =>
    have q1 : mget p (putAll M.lines (linedL (0, 0) ops)) = some x := h1 p x hm
    rw [q1, findR_addR_some (by rw [← h p]; exact hm)]
  | none =>
    by_cases hx : ∃ a ∈ linedL (0, 0) ops, p = a.place
    · obtain ⟨a, ha, rfl⟩ := hx
      have q1 : mget a.place (putAll M.lines (linedL (0, 0) ops)) = some a := h2 a ha
      rw [q1, findR_addR_mem hpw ha (by rw [← h]; exact hm)]
    · rw [mget_putAll_not (fun a ha e => hx ⟨a, ha, e⟩), findR_addR_not (fun a ha e => hx ⟨a, ha, e.symm⟩), hm, ← h p, hm]
end
end Go.Proofs.Ytamfgmlhopjppaa
