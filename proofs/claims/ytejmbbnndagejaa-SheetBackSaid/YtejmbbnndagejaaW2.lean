/-
  The reference's reader: Text, Done.
-/
import Derived.Test.YtejmbbnndagejaaW1
namespace Go.Proofs.Ytejmbbnndagejaa
open Go.RowKit Go.ChangeShapes Go.WideShapes Go.ChangeAt

theorem r_NumS (g : Nat) (S : ByteArray) (p : Nat) (bad : Bool) (q : Int × Nat × Bool) (hq : numRf S p bad = q) (w : World) (hg : IsRr w g S p bad) (hs : S.size ≤ 1073741824) (hps : p ≤ S.size) :
    Calls Try.prog 58 #[.pointer (some ⟨g, 0, none⟩)] w fun e w' => e = .returned (.int .i64 q.1) ∧ IsRr w' g S q.2.1 q.2.2 ∧ Kp (· = g) w w' := by
  subst hq
  cases bad with
  | true =>
    refine (r_Num_bad g S p w hg).mono ?_
    rintro e w' ⟨rfl, hk⟩
    exact ⟨rfl, Blk.kept hg hk (fun x => x), hk.any⟩
  | false =>
    refine (r_Num g S p _ rfl w hg hs hps).mono ?_
    rintro e w' ⟨hk, h⟩
    unfold numRf
    cases hr : rdNum (S.data.toList.drop p) with
    | none => rw [hr] at h; exact ⟨h.1, h.2, hk⟩
    | some q => rw [hr] at h; exact ⟨h.1, h.2, hk⟩

def fitsAt (S : ByteArray) (n : Int) (p : Nat) : Prop := 0 ≤ n ∧ n ≤ (S.size : Int) - (p : Int)
instance (S : ByteArray) (n : Int) (p : Nat) : Decidable (fitsAt S n p) := by unfold fitsAt; exact inferInstance
def textRf (S : ByteArray) (q : Int × Nat × Bool) : ByteArray × Nat × Bool :=
  match q with
  | (_, p, true) => (ByteArray.empty, p, true)
  | (n, p, false) => if fitsAt S n p then (S.extract p (p + n.toNat), p + n.toNat, false) else (ByteArray.empty, p, true)

set_option maxRecDepth 100000 in
set_option maxHeartbeats 1000000 in
theorem r_TextS (g : Nat) (S : ByteArray) (p : Nat) (bad : Bool) (q : Int × Nat × Bool) (hq : numRf S p bad = q) (t : ByteArray × Nat × Bool) (ht : textRf S q = t) (hqs : q.2.1 ≤ S.size) (w : World) (hg : IsRr w g S p bad) (hs : S.size ≤ 1073741824) (hps : p ≤ S.size) :
    Calls Try.prog 59 #[.pointer (some ⟨g, 0, none⟩)] w fun e w' => e = .returned (.string t.1) ∧ IsRr w' g S t.2.1 t.2.2 ∧ Kp (· = g) w w' := by
  have HG := Lib.hid hg
  have HT := Lib.hid ht
  clear hg ht
  obtain ⟨n, p2, b2⟩ := q
  have hp2 : p2 ≤ S.size := hqs
  clear hqs
  go_enter Try.func59, Try.ntmps59
  go_wp2_with fail
  refine (r_NumS g S p bad _ hq w HG.out hs hps).mono ?_
  rintro e w2 ⟨rfl, hg2, hk2⟩
  have HG2 := Lib.hid hg2
  have HK2 := Lib.hid hk2
  have g0 : w2.cell? ⟨g, 0, none⟩ = some (.string S) := Blk.cell hg2 rfl
  have g1 : w2.cell? ⟨g, 1, none⟩ = some (.int .i64 (p2 : Int)) := Blk.cell hg2 rfl
  have g2 : w2.cell? ⟨g, 2, none⟩ = some (.bool b2) := Blk.cell hg2 rfl
  have f1 := Blk.fr hg2 1
  have f2 := Blk.fr hg2 2
  have hsub : IntKind.i64.wrap ((S.size : Int) - (p2 : Int)) = (S.size : Int) - (p2 : Int) := by rw [IntKind.wrap_i64]; omega
  clear hg2 hk2 hq
  cases b2 with
  | true =>
    have HQ : Hid (t = (ByteArray.empty, p2, true)) := Lib.hid HT.out.symm
    clear HT
    go_wp2_with fail
    refine Reg.wp_region_plan [⟨0, false, []⟩, ⟨1, false, []⟩, ⟨2, false, []⟩, ⟨3, false, []⟩, ⟨4, false, []⟩, ⟨5, false, []⟩, ⟨6, false, []⟩, ⟨7, false, []⟩, ⟨8, false, []⟩, ⟨9, false, []⟩, ⟨10, false, []⟩, ⟨11, false, []⟩, ⟨12, false, []⟩, ⟨13, false, []⟩, ⟨14, false, []⟩, ⟨15, false, []⟩, ⟨16, false, []⟩, ⟨17, false, []⟩, ⟨18, false, []⟩, ⟨19, false, []⟩, ⟨20, false, []⟩, ⟨21, false, []⟩] rfl (by kernel_rfl) ?_
    repeat (first | (refine Reg.look rfl rfl rfl (by go_simp; rfl) rfl ?_; go_simp) | (refine Reg.skip rfl rfl rfl ?_; go_simp))
    (refine Reg.done ?_; simp only [Exit.then])
    go_wp2_with fail
    go_ret
    refine ⟨?_, ?_, ?_⟩
    · rw [HQ.out]; rfl
    · rw [HQ.out]; exact Blk.set (Blk.drew HG2.out) 2 (.bool true)
    · exact (HK2.out.drew).setCell (p := ⟨g, 2, none⟩) (fun _ => rfl) _
  | false =>
    by_cases hf : fitsAt S n p2
    · have HQ : Hid (t = (S.extract p2 (p2 + n.toNat), p2 + n.toNat, false)) := Lib.hid (by rw [← HT.out]; exact if_pos hf)
      obtain ⟨h0, h1⟩ := hf
      obtain ⟨m, rfl⟩ : ∃ m : Nat, n = (m : Int) := ⟨n.toNat, by omega⟩
      have hd0 : decide ((m : Int) < 0) = false := decide_eq_false (by omega)
      have hd1 : decide ((S.size : Int) - (p2 : Int) < (m : Int)) = false := decide_eq_false (by omega)
      have hadd : IntKind.i64.wrap ((p2 : Int) + (m : Int)) = ((p2 + m : Nat) : Int) := by rw [IntKind.wrap_i64]; omega
      have hle1 : p2 ≤ p2 + m := by omega
      have hle2 : p2 + m ≤ S.size := by omega
      rw [Int.toNat_natCast] at HQ
      obtain ⟨pm, hpm⟩ : ∃ pm, p2 + m = pm := ⟨_, rfl⟩
      rw [hpm] at HQ hadd hle1 hle2
      clear HT hpm
      go_wp2_with fail
      refine Reg.wp_region_plan [⟨0, false, []⟩, ⟨1, false, []⟩, ⟨2, false, []⟩, ⟨3, false, []⟩, ⟨4, false, []⟩, ⟨5, false, []⟩, ⟨6, false, []⟩, ⟨7, false, []⟩, ⟨8, false, []⟩, ⟨9, false, []⟩, ⟨10, false, []⟩, ⟨11, false, []⟩, ⟨12, false, []⟩, ⟨13, false, []⟩, ⟨14, false, []⟩, ⟨15, false, []⟩, ⟨16, false, []⟩, ⟨17, false, []⟩, ⟨18, false, []⟩, ⟨19, false, []⟩, ⟨20, false, []⟩, ⟨21, false, []⟩] rfl (by kernel_rfl) ?_
      repeat (first | (refine Reg.look rfl rfl rfl (by go_simp; rfl) rfl ?_; go_simp) | (refine Reg.skip rfl rfl rfl ?_; go_simp))
      (refine Reg.done ?_; simp only [Exit.then])
      go_wp2_with fail
      refine Reg.wp_region_plan [⟨0, false, []⟩, ⟨1, false, []⟩, ⟨2, false, []⟩, ⟨3, false, []⟩, ⟨4, false, []⟩, ⟨5, false, []⟩, ⟨6, false, []⟩, ⟨7, false, []⟩, ⟨8, false, []⟩, ⟨9, false, []⟩, ⟨10, false, []⟩, ⟨11, false, []⟩, ⟨12, false, []⟩, ⟨13, false, []⟩, ⟨14, false, []⟩, ⟨15, false, []⟩] rfl (by kernel_rfl) ?_
      repeat (first | (refine Reg.look rfl rfl rfl (by go_simp; rfl) rfl ?_; go_simp) | (refine Reg.skip rfl rfl rfl ?_; go_simp))
      (refine Reg.done ?_; simp only [Exit.then])
      go_wp2_with fail
      go_ret
      refine ⟨?_, ?_, ?_⟩
      · rw [HQ.out]; rfl
      · rw [HQ.out]; exact Blk.set (Blk.drew (Blk.drew HG2.out)) 1 (.int .i64 (pm : Int))
      · exact (HK2.out.drew.drew).setCell (p := ⟨g, 1, none⟩) (fun _ => rfl) _
    · have HQ : Hid (t = (ByteArray.empty, p2, true)) := Lib.hid (by rw [← HT.out]; exact if_neg hf)
      clear HT
      by_cases h0 : n < 0
      · have hd0 : decide (n < 0) = true := decide_eq_true h0
        clear hf
        go_wp2_with fail
        refine Reg.wp_region_plan [⟨0, false, []⟩, ⟨1, false, []⟩, ⟨2, false, []⟩, ⟨3, false, []⟩, ⟨4, false, []⟩, ⟨5, false, []⟩, ⟨6, false, []⟩, ⟨7, false, []⟩, ⟨8, false, []⟩, ⟨9, false, []⟩, ⟨10, false, []⟩, ⟨11, false, []⟩, ⟨12, false, []⟩, ⟨13, false, []⟩, ⟨14, false, []⟩, ⟨15, false, []⟩, ⟨16, false, []⟩, ⟨17, false, []⟩, ⟨18, false, []⟩, ⟨19, false, []⟩, ⟨20, false, []⟩, ⟨21, false, []⟩] rfl (by kernel_rfl) ?_
        repeat (first | (refine Reg.look rfl rfl rfl (by go_simp; rfl) rfl ?_; go_simp) | (refine Reg.skip rfl rfl rfl ?_; go_simp))
        (refine Reg.done ?_; simp only [Exit.then])
        go_wp2_with fail
        go_ret
        refine ⟨?_, ?_, ?_⟩
        · rw [HQ.out]; rfl
        · rw [HQ.out]; exact Blk.set (Blk.drew HG2.out) 2 (.bool true)
        · exact (HK2.out.drew).setCell (p := ⟨g, 2, none⟩) (fun _ => rfl) _
      · have hd0 : decide (n < 0) = false := decide_eq_false h0
        have hd1 : decide ((S.size : Int) - (p2 : Int) < n) = true := decide_eq_true (by unfold fitsAt at hf; omega)
        clear hf
        go_wp2_with fail
        refine Reg.wp_region_plan [⟨0, false, []⟩, ⟨1, false, []⟩, ⟨2, false, []⟩, ⟨3, false, []⟩, ⟨4, false, []⟩, ⟨5, false, []⟩, ⟨6, false, []⟩, ⟨7, false, []⟩, ⟨8, false, []⟩, ⟨9, false, []⟩, ⟨10, false, []⟩, ⟨11, false, []⟩, ⟨12, false, []⟩, ⟨13, false, []⟩, ⟨14, false, []⟩, ⟨15, false, []⟩, ⟨16, false, []⟩, ⟨17, false, []⟩, ⟨18, false, []⟩, ⟨19, false, []⟩, ⟨20, false, []⟩, ⟨21, false, []⟩] rfl (by kernel_rfl) ?_
        repeat (first | (refine Reg.look rfl rfl rfl (by go_simp; rfl) rfl ?_; go_simp) | (refine Reg.skip rfl rfl rfl ?_; go_simp))
        (refine Reg.done ?_; simp only [Exit.then])
        go_wp2_with fail
        go_ret
        refine ⟨?_, ?_, ?_⟩
        · rw [HQ.out]; rfl
        · rw [HQ.out]; exact Blk.set (Blk.drew HG2.out) 2 (.bool true)
        · exact (HK2.out.drew).setCell (p := ⟨g, 2, none⟩) (fun _ => rfl) _

set_option maxRecDepth 100000 in
theorem r_DoneS (g : Nat) (S : ByteArray) (p : Nat) (bad : Bool) (w : World) (hg : IsRr w g S p bad) :
    Calls Try.prog 60 #[.pointer (some ⟨g, 0, none⟩)] w fun e w' => e = .returned (.bool (!bad && decide (p = S.size))) ∧ Kp No w w' := by
  have g0 : w.cell? ⟨g, 0, none⟩ = some (.string S) := Blk.cell hg rfl
  have g1 : w.cell? ⟨g, 1, none⟩ = some (.int .i64 (p : Int)) := Blk.cell hg rfl
  have g2 : w.cell? ⟨g, 2, none⟩ = some (.bool bad) := Blk.cell hg rfl
  clear hg
  cases bad with
  | true =>
    go_enter Try.func60, Try.ntmps60
    go_wp2_with fail
    refine Reg.wp_region_plan [⟨0, false, []⟩, ⟨1, false, []⟩, ⟨2, false, []⟩, ⟨3, false, []⟩, ⟨4, false, []⟩, ⟨5, false, []⟩, ⟨6, false, []⟩, ⟨7, false, []⟩, ⟨8, false, []⟩, ⟨9, false, []⟩, ⟨10, false, []⟩, ⟨11, false, []⟩, ⟨12, false, []⟩, ⟨13, false, []⟩, ⟨14, false, []⟩, ⟨15, false, []⟩, ⟨16, false, []⟩, ⟨17, false, []⟩] rfl (by kernel_rfl) ?_
    repeat (first | (refine Reg.look rfl rfl rfl (by go_simp; rfl) rfl ?_; go_simp) | (refine Reg.skip rfl rfl rfl ?_; go_simp))
    (refine Reg.done ?_; simp only [Exit.then])
    go_wp2_with fail
    go_ret
    exact ⟨rfl, (Kp.refl _ _).drew⟩
  | false =>
    have he : ((p : Int) == (S.size : Int)) = decide (p = S.size) := by
      by_cases h : p = S.size
      · rw [decide_eq_true h]; simp [h]
      · rw [decide_eq_false h]; simp; omega
    go_enter Try.func60, Try.ntmps60
    go_wp2_with fail
    refine Reg.wp_region_plan [⟨0, false, []⟩, ⟨1, false, []⟩, ⟨2, false, []⟩, ⟨3, false, []⟩, ⟨4, false, []⟩, ⟨5, false, []⟩, ⟨6, false, []⟩, ⟨7, false, []⟩, ⟨8, false, []⟩, ⟨9, false, []⟩, ⟨10, false, []⟩, ⟨11, false, []⟩, ⟨12, false, []⟩, ⟨13, false, []⟩, ⟨14, false, []⟩, ⟨15, false, []⟩, ⟨16, false, []⟩, ⟨17, false, []⟩] rfl (by kernel_rfl) ?_
    repeat (first | (refine Reg.look rfl rfl rfl (by go_simp; rfl) rfl ?_; go_simp) | (refine Reg.skip rfl rfl rfl ?_; go_simp))
    (refine Reg.done ?_; simp only [Exit.then])
    go_wp2_with fail
    go_ret
    exact ⟨by first | rfl | simp, (Kp.refl _ _).drew⟩
end Go.Proofs.Ytejmbbnndagejaa
