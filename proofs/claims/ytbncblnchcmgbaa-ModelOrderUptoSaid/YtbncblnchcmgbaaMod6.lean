/-
  (*Model).live: what each name means.
-/
import Derived.Test.YtbncblnchcmgbaaMod5
namespace Go.Proofs.Ytbncblnchcmgbaa
open Go.RowKit Go.ChangeShapes Go.WideShapes Go.ChangeAt

def liveG (m : List (ByteArray × OpL)) (o : OpL) : List (ByteArray × OpL) := if o.kind = 1 then mput o.name o m else if o.kind = 2 then mdel o.name m else m
def liveL1 (L : List OpL) : List (ByteArray × OpL) := L.foldl liveG []
theorem liveL1_snoc (L : List OpL) (o : OpL) : liveL1 (L ++ [o]) = liveG (liveL1 L) o := by simp [liveL1, List.foldl_append]
def pathD (M : MV) (p : Int × Int) : List OpL := (pathM M p).getD []
theorem key_text : KeyOk Try.prog 9 (κ := ByteArray) Value.string := KeyOk.string Try.underlying9
theorem pathP_all {w w' : World} {M : MV} {p : Int × Int} {e : Ending} (h : PathP w w' (pathM M p) e) : ∃ A c, e = .returned (.tuple #[.slice A (pathD M p).length c, .bool (pathM M p).isSome]) ∧ Rp.opl.slice.R w' (fun k => w.heap.size ≤ k) [.slice A (pathD M p).length c] (pathD M p) := by
  unfold pathD
  cases hp : pathM M p with
  | none =>
    rw [hp] at h
    exact ⟨none, 0, h, Rp.none_ _ _ _⟩
  | some L =>
    rw [hp] at h
    obtain ⟨A, c, h1, h2⟩ := h
    exact ⟨A, c, h1, h2⟩
set_option maxRecDepth 100000 in
set_option maxHeartbeats 8000000 in
theorem m_live (p : Int × Int) (m : Nat) (M : MV) (F : Nat → Prop) (w : World) (hM : MAt w m M F) (hok : OkM M) :
    Calls Try.prog 58 #[.pointer (some ⟨m, 0, none⟩), spotV p] w fun e w' => ∃ b, e = .returned (.tuple #[.map (some b), .bool (pathM M p).isSome]) ∧ w.heap.size ≤ b ∧ MapRp Rp.opl w' (fun k => w.heap.size ≤ k ∧ k ≠ b) b Value.string (liveL1 (pathD M p)) ∧ Kp No w w' := by
  obtain ⟨B, hB⟩ : ∃ B, (pathM M p).isSome = B := ⟨_, rfl⟩
  obtain ⟨L, hL⟩ : ∃ L, pathD M p = L := ⟨_, rfl⟩
  obtain ⟨wa, hwa⟩ : ∃ v, w.alloc (.cells #[.int .i64 p.1, .int .i64 p.2] 54) = v := ⟨_, rfl⟩
  have hka : Kp No w wa := by rw [← hwa]; exact (Kp.refl _ _).alloc _
  obtain ⟨at_, hat⟩ : ∃ v, w.heap.size = v := ⟨_, rfl⟩
  have hba : Blk wa at_ 54 [.int .i64 p.1, .int .i64 p.2] := by rw [← hwa, ← hat]; exact Blk.new w _ _
  have s0 : wa.cell? ⟨at_, 0, none⟩ = some _ := Blk.cell hba rfl
  have s1 : wa.cell? ⟨at_, 1, none⟩ = some _ := Blk.cell hba rfl
  have hpa := (m_path p m M F wa (hM.keptNo hka) hok).mono (fun e w' h => (⟨pathP_all h.1, h.2⟩ : (∃ A c, e = .returned (.tuple #[.slice A (pathD M p).length c, .bool (pathM M p).isSome]) ∧ Rp.opl.slice.R w' (fun k => wa.heap.size ≤ k) [.slice A (pathD M p).length c] (pathD M p)) ∧ Kp No wa w'))
  have hpl : L.length = L.length := rfl
  rw [hB, hL] at hpa ⊢
  unfold spotV at hpa ⊢
  have HPA := Lib.hid hpa
  have HKA := Lib.hid hka
  clear hpa hka hba hM hok hpl
  go_enter Try.func58, Try.ntmps58
  go_wp2_with fail
  clear hwa s0 s1 hat
  refine HPA.out.mono ?_
  rintro e w1 ⟨⟨A, c, rfl, hr⟩, hk1⟩
  obtain ⟨b, hb⟩ : ∃ v, w1.heap.size = v := ⟨_, rfl⟩
  obtain ⟨w2, hw2⟩ : ∃ v, w1.alloc (.map #[] 0) = v := ⟨_, rfl⟩
  have hk2 : Kp No w1 w2 := by rw [← hw2]; exact (Kp.refl _ _).alloc _
  have HMP : Hid (MapRp Rp.opl w2 (fun k => w.heap.size ≤ k ∧ k ≠ b) b Value.string (liveL1 (L.take 0))) := Lib.hid (by rw [← hw2, ← hb]; exact MapRp.made w1 _)
  have HR : Hid (Rp.opl.slice.R w2 (fun k => w.heap.size ≤ k ∧ k < b) [.slice A L.length c] L) := Lib.hid (Rp.opl.slice.keptNo (Rp.opl.slice.more (Rp.opl.slice.bnd hr) (fun k hk => ⟨Nat.le_trans HKA.out.size hk.1, by rw [← hb]; exact hk.2⟩)) hk2)
  have HK2 := Lib.hid ((HKA.out.trans' hk1).trans' hk2)
  have HBW : Hid (w.heap.size ≤ b) := Lib.hid (by rw [← hb]; exact (HKA.out.trans' hk1).size)
  have hll : (L.length : Int) ≤ 9223372036854775807 := by
    obtain ⟨_, _, he, h1, h2, _⟩ := hr
    simp only [List.cons.injEq, Value.slice.injEq, and_true] at he
    unfold maxLen at h2
    omega
  have hmk : (Instr.makeMap 129 none).run Try.prog w1 = .ok (.map (some b)) w2 := by rw [← hw2, ← hb]; rfl
  clear hr hk1 hk2 HPA HKA hw2 hb
  go_wp2_with fail
  clear hmk
  go_loopw [20] (fun iv wr => ∃ i : Nat, i ≤ L.length ∧ iv = .int .i64 (i : Int) ∧ Hid (MapRp Rp.opl wr (fun k => w.heap.size ≤ k ∧ k ≠ b) b Value.string (liveL1 (L.take i))) ∧ Hid (Kp (· = b) w2 wr)) (fun iv _ => L.length - (intOf iv).toNat)
  case atStart => exact ⟨0, Nat.zero_le _, rfl, HMP, Lib.hid (Kp.refl _ _)⟩
  case round =>
    clear HMP
    obtain ⟨i, hi, rfl, HMP, HKR⟩ := hrel
    by_cases hlt : i < L.length
    · have hli : (i : Int) < (L.length : Int) := by omega
      obtain ⟨o, ho⟩ : ∃ o, L[i]? = some o := ⟨_, List.getElem?_eq_getElem hlt⟩
      have HTK : Hid (liveL1 (L.take (i + 1)) = liveG (liveL1 (L.take i)) o) := Lib.hid (by
        obtain ⟨e1, e2⟩ := List.getElem?_eq_some_iff.1 ho
        rw [List.take_succ_eq_append_getElem e1, e2, liveL1_snoc])
      have HRX := Lib.hid (Rp.opl.slice.kept HR.out HKR.out (fun k hk _ e => by have := hk.2; omega))
      obtain ⟨ad, A', c', rfl, _, hcell, hnum, hrd⟩ := Rp.at_opl HRX.out ho
      obtain ⟨z0, z1, z2, z3, z4, z5, z6, z7, z8⟩ := opl_cells hcell
      obtain ⟨y, hy⟩ : ∃ v, wr.heap.size = v := ⟨_, rfl⟩
      obtain ⟨w3, hw3⟩ : ∃ v, wr.alloc (.cells #[.int .i64 o.n, .int .i64 o.epoch, .int .i64 o.kind, .int .i64 o.site, .int .i64 o.client, .int .i64 o.seq, .string o.name, .int .i64 o.size, .slice A' o.hashes.length c'] 38) = v := ⟨_, rfl⟩
      have hk3 : Kp No wr w3 := by rw [← hw3]; exact (Kp.refl _ _).alloc _
      have hb3 : Blk w3 y 38 [.int .i64 o.n, .int .i64 o.epoch, .int .i64 o.kind, .int .i64 o.site, .int .i64 o.client, .int .i64 o.seq, .string o.name, .int .i64 o.size, .slice A' o.hashes.length c'] := by rw [← hw3, ← hy]; exact Blk.new wr _ _
      have y2 : w3.cell? ⟨y, 2, none⟩ = some _ := Blk.cell hb3 rfl
      have y6 : w3.cell? ⟨y, 6, none⟩ = some _ := Blk.cell hb3 rfl
      have hld := run_load_op (o := o) hb3
      unfold opV at hld
      have HLD := Lib.hid hld
      have HM3 := Lib.hid (HMP.out.keptNo hk3)
      have HK3 := Lib.hid hk3
      have HNB : Hid (¬ (w.heap.size ≤ b ∧ b ≠ b)) := Lib.hid (fun h => h.2 rfl)
      have HRO : Hid (Rp.opl.R w3 (fun k => w.heap.size ≤ k ∧ k ≠ b) (o.cells (.slice A' o.hashes.length c')) o) := Lib.hid ⟨_, rfl, hnum, Rp.str.slice.keptNo (Rp.str.slice.more hrd (fun k hk => ⟨hk.1, by have := hk.2; omega⟩)) hk3⟩
      clear ho hcell hnum hrd hk3 hb3 hld HMP HRX
      by_cases h1 : o.kind = 1
      · have hg : liveG (liveL1 (L.take i)) o = mput o.name o (liveL1 (L.take i)) := by unfold liveG; rw [if_pos h1]
        obtain ⟨w4, hrun, hm4, hk4⟩ := HM3.out.update (P := Try.prog) key_text Try.underlying129 HNB.out o.name HRO.out
        have hrun2 : (Instr.mapUpdate 129 (.map (some b)) (.string o.name) (.agg #[.int .i64 o.n, .int .i64 o.epoch, .int .i64 o.kind, .int .i64 o.site, .int .i64 o.client, .int .i64 o.seq, .string o.name, .int .i64 o.size, .slice A' o.hashes.length c'])).run Try.prog w3 = .ok () w4 := hrun
        have HRUN := Lib.hid hrun2
        have HM4 : Hid (MapRp Rp.opl w4 (fun k => w.heap.size ≤ k ∧ k ≠ b) b Value.string (liveL1 (L.take (i + 1)))) := Lib.hid (by rw [HTK.out, hg]; exact hm4)
        have HK4 : Hid (Kp (· = b) w2 w4) := Lib.hid ((HKR.out.trans HK3.out.any (fun _ _ h => h)).trans hk4 (fun _ _ h => h))
        have hkb : (o.kind == 1) = true := beq_iff_eq.2 h1
        clear hg hrun hrun2 hm4 hk4 HRO HM3 h1
        go_wp2_with (first | (refine wpl_load (by first | rfl | go_simp) 38 _ rfl _ _ rfl HLD.out ?_; go_simp) | (refine wpl_update (by first | rfl | go_simp) 129 _ _ _ rfl _ _ _ rfl rfl rfl HRUN.out ?_; go_simp))
        go_roundw
        case rel => exact ⟨i + 1, by omega, by go_num, HM4, HK4⟩
        case measure => simp [intOf]; omega
      · have hkb1 : (o.kind == 1) = false := beq_eq_false_iff_ne.2 h1
        by_cases h2 : o.kind = 2
        · have hg : liveG (liveL1 (L.take i)) o = mdel o.name (liveL1 (L.take i)) := by unfold liveG; rw [if_neg h1, if_pos h2]
          obtain ⟨w4, hrun, hm4, hk4⟩ := HM3.out.delete (P := Try.prog) key_text Try.underlying129 HNB.out o.name 9 0
          have hkb2 : (o.kind == 2) = true := beq_iff_eq.2 h2
          have HM4 : Hid (MapRp Rp.opl w4 (fun k => w.heap.size ≤ k ∧ k ≠ b) b Value.string (liveL1 (L.take (i + 1)))) := Lib.hid (by rw [HTK.out, hg]; exact hm4)
          have HK4 : Hid (Kp (· = b) w2 w4) := Lib.hid ((HKR.out.trans HK3.out.any (fun _ _ h => h)).trans hk4 (fun _ _ h => h))
          clear hg hm4 hk4 HRO HM3 h1 h2
          go_wp2_with fail
          try rw [hrun]
          try go_wp2_with fail
          go_roundw
          case rel => exact ⟨i + 1, by omega, by go_num, HM4, HK4⟩
          case measure => simp [intOf]; omega
        · have hg : liveG (liveL1 (L.take i)) o = liveL1 (L.take i) := by unfold liveG; rw [if_neg h1, if_neg h2]
          have hkb2 : (o.kind == 2) = false := beq_eq_false_iff_ne.2 h2
          have HM4 : Hid (MapRp Rp.opl w3 (fun k => w.heap.size ≤ k ∧ k ≠ b) b Value.string (liveL1 (L.take (i + 1)))) := Lib.hid (by rw [HTK.out, hg]; exact HM3.out)
          have HK4 : Hid (Kp (· = b) w2 w3) := Lib.hid (HKR.out.trans HK3.out.any (fun _ _ h => h))
          clear hg HRO HM3 h1 h2
          go_wp2_with fail
          go_roundw
          case rel => exact ⟨i + 1, by omega, by go_num, HM4, HK4⟩
          case measure => simp [intOf]; omega
    · obtain rfl : i = L.length := by omega
      have HMQ := Lib.hid HMP.out
      rw [List.take_length] at HMQ
      go_wp2_with fail
      exact bodyPost_ret (results_tmp2 rfl _ _ _) rfl ⟨b, rfl, HBW.out, HMQ.out, HK2.out.trans HKR.out (fun k hk e => by have := HBW.out; omega)⟩
end Go.Proofs.Ytbncblnchcmgbaa
