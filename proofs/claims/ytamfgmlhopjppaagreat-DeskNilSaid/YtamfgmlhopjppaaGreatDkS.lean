/-
  (*Desk).Settle.
-/
import Derived.Test.YtamfgmlhopjppaaGreatDkB
namespace Go.Proofs.YtamfgmlhopjppaaGreat
open Go.RowKit Go.ChangeShapes Go.WideShapes Go.ChangeAt

/-- a place, and the operations that lack chunks there -/
structure ReachL where
  at1 : Int
  at2 : Int
  holes : List Int
def reachW (x : ReachL) (hv : Value) : Value := .agg #[.int .i64 x.at1, .int .i64 x.at2, hv]
def epochOf (ops : List OpL) (n : Int) : Option Int := (ops[(n - 1).toNat]?).map (·.epoch)
/-- a place's number, if it is there -/
def countsD (ops : List OpL) (a b : Int) : Int := if 1 ≤ a ∧ a ≤ (ops.length : Int) ∧ epochOf ops a = some b then a else 0
def thereD (ops : List OpL) (n : Int) (x : ReachL) : Bool := decide (n ≤ countsD ops x.at1 x.at2) && !x.holes.contains n
def enoughD (ops : List OpL) (site : ReachL) (o1 o2 : Int) (whole : ReachL) (r : RowD) : Bool :=
  if r.ask.mode = 1 then thereD ops r.an site && decide (r.an - countsD ops o1 o2 ≤ r.ask.lag)
  else if r.ask.mode = 2 then thereD ops r.an site && thereD ops r.an whole && decide (r.an ≤ countsD ops o1 o2)
  else thereD ops r.an site
def settleF (ops : List OpL) (site : ReachL) (o1 o2 : Int) (whole : ReachL) : HowD := fun r =>
  if countsD ops r.an r.ae = 0 then (repD r.n 222 (0, 0), true, r) else (repD r.n 0 (r.an, r.ae), enoughD ops site o1 o2 whole r, r)
theorem countsD_le (ops : List OpL) (a b : Int) : 0 ≤ countsD ops a b ∧ countsD ops a b ≤ (ops.length : Int) := by
  unfold countsD
  split
  · omega
  · omega
set_option maxRecDepth 100000 in
set_option maxHeartbeats 4000000 in
theorem k_counts (ops : List OpL) (A : Option Addr) (c : Nat) (a b : Int) (w : World) (S : Nat → Prop) (h : Rp.opl.slice.R w S [.slice A ops.length c] ops) (hl : ops.length ≤ 1000000) :
    Calls Tryz.prog 75 #[.slice A ops.length c, .agg #[.int .i64 a, .int .i64 b]] w fun e w' => e = .returned (.int .i64 (countsD ops a b)) ∧ Kp No w w' := by
  obtain ⟨y, hy⟩ : ∃ v, w.heap.size = v := ⟨_, rfl⟩
  obtain ⟨w1, hw1⟩ : ∃ v, w.alloc (.cells #[.int .i64 a, .int .i64 b] 42) = v := ⟨_, rfl⟩
  have hk1 : Kp No w w1 := by rw [← hw1]; exact (Kp.refl _ _).alloc _
  have hb1 : Blk w1 y 42 [.int .i64 a, .int .i64 b] := by rw [← hw1, ← hy]; exact Blk.new _ _ _
  have y0 : w1.cell? ⟨y, 0, none⟩ = some _ := Blk.cell hb1 rfl
  have y1 : w1.cell? ⟨y, 1, none⟩ = some _ := Blk.cell hb1 rfl
  have HB := Lib.hid hb1
  have HK := Lib.hid hk1
  have HR := Lib.hid (Rp.opl.slice.keptNo h hk1)
  have hli : (ops.length : Int) ≤ 1000000 := by omega
  obtain ⟨R, hR⟩ : ∃ R, countsD ops a b = R := ⟨_, rfl⟩
  have HQ := Lib.hid hR
  rw [hR]
  unfold countsD at HQ
  clear hk1 hb1 h hl hR
  by_cases h1 : a < 1
  case pos =>
    have HF : Hid (R = 0) := Lib.hid (by rw [← HQ.out, if_neg (fun h => by omega)])
    go_enter Tryz.func75, Tryz.ntmps75
    go_upto_region 1 with fail
    try rw [hw1]
    try rw [hy]
    clear hw1 hy
    go_quiet (fail)
    go_wp2_with fail
    go_ret
    exact ⟨by rw [HF.out]; rfl, HK.out.drewN _⟩
  case neg =>
  by_cases h2 : (ops.length : Int) < a
  case pos =>
    have HF : Hid (R = 0) := Lib.hid (by rw [← HQ.out, if_neg (fun h => by omega)])
    go_enter Tryz.func75, Tryz.ntmps75
    go_upto_region 1 with fail
    try rw [hw1]
    try rw [hy]
    clear hw1 hy
    go_quiet (fail)
    go_wp2_with fail
    go_ret
    exact ⟨by rw [HF.out]; rfl, HK.out.drewN _⟩
  case neg =>
  obtain ⟨j, rfl⟩ : ∃ j : Nat, a = (j : Int) + 1 := ⟨(a - 1).toNat, by omega⟩
  have hj : j < ops.length := by omega
  obtain ⟨o, ho⟩ : ∃ o, ops[j]? = some o := ⟨_, List.getElem?_eq_getElem hj⟩
  obtain ⟨ad, A', c', rfl, hS, hcell, _, _⟩ := Rp.at_opl HR.out ho
  obtain ⟨_, x1, _⟩ := opl_cells hcell
  have hep : epochOf ops ((j : Int) + 1) = some o.epoch := by
    unfold epochOf
    rw [show ((j : Int) + 1 - 1).toNat = j by omega, ho]
    rfl
  have hsub : (j : Int) + 1 - 1 = (j : Int) := by omega
  have hji : (j : Int) < (ops.length : Int) := by omega
  by_cases h3 : o.epoch = b
  case neg =>
    have hb : (o.epoch != b) = true := bne_iff_ne.2 h3
    have HF : Hid (R = 0) := Lib.hid (by rw [← HQ.out, if_neg (fun h => h3 (by rw [hep] at h; have := h.2.2; injection this))])
    clear hcell ho hep h3
    go_enter Tryz.func75, Tryz.ntmps75
    go_upto_region 1 with fail
    try rw [hw1]
    try rw [hy]
    clear hw1 hy
    go_quiet (fail)
    go_wp2_with fail
    go_ret
    exact ⟨by rw [HF.out]; rfl, HK.out.drewN _⟩
  case pos =>
    have hb : (o.epoch != b) = false := by rw [h3]; simp
    have HF : Hid (R = (j : Int) + 1) := Lib.hid (by rw [← HQ.out, if_pos ⟨by omega, by omega, by rw [hep, h3]⟩])
    clear hcell ho hep h3
    go_enter Tryz.func75, Tryz.ntmps75
    go_upto_region 1 with fail
    try rw [hw1]
    try rw [hy]
    clear hw1 hy
    go_quiet (fail)
    obtain ⟨wd, hwd⟩ : ∃ v, w1.drewN nq = v := ⟨_, rfl⟩
    try rw [hwd]
    have HKD : Hid (Kp No w1 wd) := Lib.hid (by rw [← hwd]; exact (Kp.refl _ _).drewN _)
    have v0 : wd.cell? ⟨y, 0, none⟩ = some _ := Blk.cell (HB.out.kept HKD.out (fun h => h)) rfl
    clear hwd
    go_wp2_with fail
    go_ret
    exact ⟨by rw [HF.out]; rfl, HK.out.trans' HKD.out⟩
set_option maxRecDepth 100000 in
set_option maxHeartbeats 4000000 in
theorem c_indexI (l : List Int) (A : Option Addr) (c : Nat) (v : Int) (w : World) (S : Nat → Prop) (h : (Rp.int .i64).slice.R w S [.slice A l.length c] l) :
    Calls Tryz.prog 229 #[.slice A l.length c, .int .i64 v] w fun e w' => ∃ r : Int, e = .returned (.int .i64 r) ∧ decide (r ≥ 0) = l.contains v ∧ Kp No w w' := by
  have hll : (l.length : Int) ≤ 9223372036854775807 := by
    obtain ⟨_, _, he, h1, h2, _⟩ := id h
    simp only [List.cons.injEq, Value.slice.injEq, and_true] at he
    unfold maxLen at h2
    omega
  have HL := Lib.hid h
  clear h
  go_enter Tryz.func229, Tryz.ntmps229
  go_wp2_with fail
  go_loopw [8] (fun iv wr => ∃ i : Nat, i ≤ l.length ∧ iv = .int .i64 (i : Int) ∧ Hid (v ∉ l.take i) ∧ wr = w) (fun iv _ => l.length - (intOf iv).toNat)
  case atStart => exact ⟨0, Nat.zero_le _, rfl, Lib.hid (by simp), rfl⟩
  case round =>
    obtain ⟨i, hi, rfl, HNO, rfl⟩ := hrel
    by_cases hlt : i < l.length
    · have hli : (i : Int) < (l.length : Int) := by omega
      obtain ⟨a, ha⟩ : ∃ a, l[i]? = some a := ⟨_, List.getElem?_eq_getElem hlt⟩
      obtain ⟨ad, rfl, _, hcell, _⟩ := Rp.at_int HL.out ha
      have HTK : Hid (l.take (i + 1) = l.take i ++ [a]) := Lib.hid (by rw [List.take_add_one, ha]; rfl)
      have HIN := Lib.hid (List.mem_of_getElem? ha)
      by_cases hv : v = a
      · subst hv
        have hb : (v == v) = true := by simp
        clear ha
        go_wp2_with fail
        go_ret
        exact ⟨_, rfl, by rw [List.contains_iff_mem.2 HIN.out]; exact decide_eq_true (by omega), Kp.refl _ _⟩
      · have hb : (v == a) = false := beq_eq_false_iff_ne.2 hv
        have HN2 : Hid (v ∉ l.take (i + 1)) := Lib.hid (by rw [HTK.out]; simp only [List.mem_append, List.mem_singleton]; rintro (h | h); exact HNO.out h; exact hv h)
        clear ha hv
        go_wp2_with fail
        go_roundw
        case rel => exact ⟨i + 1, by omega, by go_num, HN2, (by first | rfl | trivial)⟩
        case measure => simp [intOf]; omega
    · obtain rfl : i = l.length := by omega
      have HNA : Hid (l.contains v = false) := Lib.hid (by
        rw [Bool.eq_false_iff, Ne, List.contains_iff_mem]
        have := HNO.out
        rwa [List.take_length] at this)
      go_wp2_with fail
      go_ret
      exact ⟨_, rfl, by rw [HNA.out]; rfl, Kp.refl _ _⟩
set_option maxRecDepth 100000 in
theorem c_containsI (l : List Int) (A : Option Addr) (c : Nat) (v : Int) (w : World) (S : Nat → Prop) (h : (Rp.int .i64).slice.R w S [.slice A l.length c] l) :
    Calls Tryz.prog 177 #[.slice A l.length c, .int .i64 v] w fun e w' => e = .returned (.bool (l.contains v)) ∧ Kp No w w' := by
  have HI := Lib.hid (c_indexI l A c v w S h)
  clear h
  go_enter Tryz.func177, Tryz.ntmps177
  go_wp2_with fail
  refine HI.out.mono ?_
  rintro e w2 ⟨r, rfl, hr, hk⟩
  have HR := Lib.hid hr
  have HK := Lib.hid hk
  clear hr hk HI
  go_wp2_with fail
  go_ret
  exact ⟨by rw [← HR.out]; rfl, HK.out⟩
set_option maxRecDepth 100000 in
set_option maxHeartbeats 4000000 in
theorem k_there (ops : List OpL) (A : Option Addr) (c : Nat) (n : Int) (x : ReachL) (B : Option Addr) (cb : Nat) (w : World) (S T : Nat → Prop) (h : Rp.opl.slice.R w S [.slice A ops.length c] ops) (hl : ops.length ≤ 1000000) (hh : (Rp.int .i64).slice.R w T [.slice B x.holes.length cb] x.holes) :
    Calls Tryz.prog 130 #[.slice A ops.length c, .int .i64 n, reachW x (.slice B x.holes.length cb)] w fun e w' => e = .returned (.bool (thereD ops n x)) ∧ Kp No w w' := by
  obtain ⟨a, b, hs⟩ := x
  unfold reachW
  simp only at hh ⊢
  obtain ⟨y, hy⟩ : ∃ v, w.heap.size = v := ⟨_, rfl⟩
  obtain ⟨w1, hw1⟩ : ∃ v, w.alloc (.cells #[.int .i64 a, .int .i64 b, .slice B hs.length cb] 53) = v := ⟨_, rfl⟩
  have hk1 : Kp No w w1 := by rw [← hw1]; exact (Kp.refl _ _).alloc _
  have hb1 : Blk w1 y 53 [.int .i64 a, .int .i64 b, .slice B hs.length cb] := by rw [← hw1, ← hy]; exact Blk.new _ _ _
  have y0 : w1.cell? ⟨y, 0, none⟩ = some _ := Blk.cell hb1 rfl
  have y1 : w1.cell? ⟨y, 1, none⟩ = some _ := Blk.cell hb1 rfl
  have HB := Lib.hid hb1
  have HK := Lib.hid hk1
  have HC := Lib.hid (k_counts ops A c a b w1 S (Rp.opl.slice.keptNo h hk1) hl)
  have HH := Lib.hid (fun w' (hk : Kp No w1 w') => c_containsI hs B cb n w' T (Rp.slice (Rp.int .i64) |>.keptNo hh (hk1.trans' hk)))
  obtain ⟨k, hkk⟩ : ∃ k, countsD ops a b = k := ⟨_, rfl⟩
  obtain ⟨R, hR⟩ : ∃ R, thereD ops n ⟨a, b, hs⟩ = R := ⟨_, rfl⟩
  have HR := Lib.hid hR
  rw [hR]
  unfold thereD at HR
  simp only at HR
  rw [hkk] at HC HR
  clear hk1 hb1 h hl hh hkk hR
  go_enter Tryz.func130, Tryz.ntmps130
  go_upto_region 1 with fail
  try rw [hw1]
  try rw [hy]
  clear hw1 hy
  go_wp2_with fail
  refine HC.out.mono ?_
  rintro e w2 ⟨rfl, hk2⟩
  have y2 : w2.cell? ⟨y, 2, none⟩ = some _ := Blk.cell (HB.out.kept hk2 (fun h => h)) rfl
  have HC2 := Lib.hid (HH.out w2 hk2)
  have HK2 := Lib.hid (HK.out.trans' hk2)
  clear hk2 HC HH y0 y1
  by_cases hn : n ≤ k
  case neg =>
    have HF : Hid (R = false) := Lib.hid (by rw [← HR.out, decide_eq_false hn]; rfl)
    clear HC2
    go_wp2_with fail
    go_ret
    exact ⟨by rw [HF.out]; rfl, HK2.out⟩
  case pos =>
    have HF : Hid (R = !hs.contains n) := Lib.hid (by rw [← HR.out, decide_eq_true hn]; rfl)
    obtain ⟨Q, hQ⟩ : ∃ Q, hs.contains n = Q := ⟨_, rfl⟩
    rw [hQ] at HC2 HF
    clear hQ
    go_wp2_with fail
    refine HC2.out.mono ?_
    rintro e w3 ⟨rfl, hk3⟩
    have HK3 := Lib.hid (HK2.out.trans' hk3)
    clear hk3 HC2 y2
    go_wp2_with fail
    go_ret
    exact ⟨by rw [HF.out]; rfl, HK3.out⟩
end Go.Proofs.YtamfgmlhopjppaaGreat
