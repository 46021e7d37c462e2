/-
  pack.Reader: Text, Count, Good, Done, Read.
-/
import Derived.Test.YtejmbbnndagejaaQ2
namespace Go.Proofs.Ytejmbbnndagejaa
open Go.RowKit Go.ChangeShapes Go.WideShapes Go.ChangeAt

/-- what a reader that reads a number, a text, a count, hands back, and how it is behind it -/
def numSt (s : ByteArray) (bad : Bool) : Int × ByteArray × Bool :=
  match bad, rdNum s.data.toList with
  | true, _ => (0, s, true)
  | false, none => (0, s, true)
  | false, some p => (p.1, bs p.2, false)
def fits (n : Int) (s : ByteArray) : Prop := 0 ≤ n ∧ n ≤ (s.size : Int)
instance (n : Int) (s : ByteArray) : Decidable (fits n s) := by unfold fits; exact inferInstance
def textOf (p : Int × ByteArray × Bool) : ByteArray × ByteArray × Bool :=
  match p with
  | (_, s, true) => (ByteArray.empty, s, true)
  | (n, s, false) => if fits n s then (s.extract 0 n.toNat, s.extract n.toNat s.size, false) else (ByteArray.empty, s, true)
def countOf (p : Int × ByteArray × Bool) : Int × ByteArray × Bool :=
  match p with
  | (_, s, true) => (0, s, true)
  | (n, s, false) => if fits n s then (n, s, false) else (0, s, true)

theorem c_NumS (g : Nat) (s : ByteArray) (bad : Bool) (p : Int × ByteArray × Bool) (hp : numSt s bad = p) (w : World) (hg : IsRd w g s bad) (hs : s.size ≤ 1073741824) :
    Calls Try.prog 53 #[.pointer (some ⟨g, 0, none⟩)] w fun e w' => e = .returned (.int .i64 p.1) ∧ IsRd w' g p.2.1 p.2.2 ∧ Kp (· = g) w w' := by
  subst hp
  cases bad with
  | true =>
    refine (c_Num_bad g s w hg).mono ?_
    rintro e w' ⟨rfl, hk⟩
    exact ⟨rfl, Blk.kept hg hk (fun x => x), hk.any⟩
  | false =>
    refine (c_Num g s _ rfl w hg hs).mono ?_
    rintro e w' ⟨hk, h⟩
    unfold numSt
    cases hr : rdNum s.data.toList with
    | none => rw [hr] at h; exact ⟨h.1, h.2, hk⟩
    | some q => rw [hr] at h; exact ⟨h.1, h.2, hk⟩

/-- what the reading of a text leaves -/
def TextEnd (g m : Nat) (w : World) (n : Int) (s : ByteArray) (e : Ending) (w' : World) : Prop :=
  (fits n s ∧ e = .returned (.bool true) ∧ IsRd w' g (s.extract n.toNat s.size) false ∧ Blk w' m 9 [.string (s.extract 0 n.toNat)] ∧ Kp (fun k => k = g ∨ k = m) w w') ∨ (¬ fits n s ∧ e = .returned (.bool false) ∧ Kp No w w')
set_option maxRecDepth 100000 in
set_option maxHeartbeats 1000000 in
theorem c_Text1 (k b m g : Nat) (n : Int) (s : ByteArray) (w : World) (hk : Blk w k 3 [.int .i64 n]) (hb : Blk w b 75 [.pointer (some ⟨g, 0, none⟩)]) (hm : Blk w m 9 [.string ByteArray.empty]) (hg : IsRd w g s false) (_hs : s.size ≤ 1073741824) :
    Calls Try.prog 74 #[.pointer (some ⟨k, 0, none⟩), .pointer (some ⟨b, 0, none⟩), .pointer (some ⟨m, 0, none⟩)] w fun e w' => TextEnd g m w n s e w' := by
  have hbm : b ≠ m := hb.ne hm (by decide)
  have hkm : k ≠ m := hk.ne hm (by decide)
  have hbg : b ≠ g := hb.ne hg (by decide)
  have hkg : k ≠ g := hk.ne hg (by decide)
  have hgm : g ≠ m := Blk.ne hg hm (by decide)
  have k0 : w.cell? ⟨k, 0, none⟩ = some (.int .i64 n) := hk.cell rfl
  have b0 : w.cell? ⟨b, 0, none⟩ = some (.pointer (some ⟨g, 0, none⟩)) := hb.cell rfl
  have g0 : w.cell? ⟨g, 0, none⟩ = some (.string s) := Blk.cell hg rfl
  have m0 : w.cell? ⟨m, 0, none⟩ = some (.string ByteArray.empty) := hm.cell rfl
  have fm := hm.fr 0
  have fg := Blk.fr hg 0
  have HM := Lib.hid hm
  have HG := Lib.hid hg
  clear hk hb hm hg
  by_cases hf : fits n s
  · obtain ⟨h0, h1⟩ := id hf
    have HF := Lib.hid hf
    have hn0 : ¬ n < 0 := by omega
    have hn1 : ¬ (s.size : Int) < n := by omega
    have hd0 : decide (n < 0) = false := decide_eq_false hn0
    have hd1 : decide ((s.size : Int) < n) = false := decide_eq_false hn1
    clear hf
    go_enter Try.func74, Try.ntmps74
    go_wp2_with fail
    refine Reg.wp_region_plan [⟨0, false, []⟩, ⟨1, false, []⟩, ⟨2, false, []⟩, ⟨3, false, []⟩, ⟨4, false, []⟩, ⟨5, false, []⟩, ⟨6, false, []⟩, ⟨7, false, []⟩, ⟨8, false, []⟩, ⟨9, false, []⟩, ⟨10, false, []⟩] rfl (by kernel_rfl) ?_
    repeat (first | (refine Reg.look rfl rfl rfl (by go_simp; rfl) rfl ?_; go_simp) | (refine Reg.skip rfl rfl rfl ?_; go_simp))
    (refine Reg.done ?_; simp only [Exit.then])
    go_wp2_with fail
    refine Reg.wp_region_plan [⟨0, false, []⟩, ⟨1, false, []⟩, ⟨2, false, []⟩, ⟨3, false, []⟩, ⟨4, false, []⟩, ⟨5, false, []⟩, ⟨6, false, []⟩, ⟨7, false, []⟩, ⟨8, false, []⟩, ⟨9, false, []⟩, ⟨10, false, []⟩, ⟨11, false, []⟩, ⟨12, false, []⟩, ⟨13, true, [0, 7, 8, 9, 10, 11, 12]⟩, ⟨14, false, []⟩, ⟨15, false, []⟩, ⟨16, true, []⟩] rfl (by kernel_rfl) ?_
    repeat (first | (refine Reg.look rfl rfl rfl (by go_simp; rfl) rfl ?_; go_simp) | (refine Reg.skip rfl rfl rfl ?_; go_simp))
    refine Reg.act rfl ?_
    go_wp2
    (refine ⟨?anew, ?_⟩; case anew => ((repeat (refine Reg.anew_cons rfl rfl (fun _ => by go_simp) ?_)); exact Reg.anew_nil))
    repeat (first | (refine Reg.look rfl rfl rfl (by go_simp; rfl) rfl ?_; go_simp) | (refine Reg.skip rfl rfl rfl ?_; go_simp))
    refine Reg.act rfl ?_
    go_wp2
    refine ⟨Reg.anew_nil, ?_⟩
    (refine Reg.done ?_; simp only [Exit.then])
    go_wp2_with fail
    go_ret
    have hw1 : Blk (w.setCell ⟨m, 0, none⟩ (.string (s.extract 0 n.toNat))) g 99 [.string s, .bool false] := Blk.kept (S := (· = m)) HG.out ((Kp.refl (· = m) w).setCell (p := ⟨m, 0, none⟩) (fun _ => rfl) _) hgm
    have hw2 := hw1.set 0 (.string (s.extract n.toNat s.size))
    have hm1 := (HM.out.set 0 (.string (s.extract 0 n.toNat))).kept (S := (· = g)) ((Kp.refl (· = g) _).setCell (p := ⟨g, 0, none⟩) (fun _ => rfl) (.string (s.extract n.toNat s.size))) (fun e => hgm e.symm)
    exact .inl ⟨HF.out, rfl, hw2.drew.drew, hm1.drew.drew, (((Kp.refl _ w).setCell (p := ⟨m, 0, none⟩) (fun _ => .inr rfl) _).setCell (p := ⟨g, 0, none⟩) (fun _ => .inl rfl) _).drew.drew⟩
  · have HF := Lib.hid hf
    by_cases hn0 : n < 0
    · clear hf
      go_enter Try.func74, Try.ntmps74
      go_wp2_with fail
      refine Reg.wp_region_plan [⟨0, false, []⟩, ⟨1, false, []⟩, ⟨2, false, []⟩, ⟨3, false, []⟩, ⟨4, false, []⟩, ⟨5, false, []⟩, ⟨6, false, []⟩, ⟨7, false, []⟩, ⟨8, false, []⟩, ⟨9, false, []⟩, ⟨10, false, []⟩] rfl (by kernel_rfl) ?_
      repeat (first | (refine Reg.look rfl rfl rfl (by go_simp; rfl) rfl ?_; go_simp) | (refine Reg.skip rfl rfl rfl ?_; go_simp))
      (refine Reg.done ?_; simp only [Exit.then])
      go_wp2_with fail
      go_ret
      exact .inr ⟨HF.out, rfl, (Kp.refl _ _).drew⟩
    · have hn1 : (s.size : Int) < n := by unfold fits at hf; omega
      have hd0 : decide (n < 0) = false := decide_eq_false hn0
      have hd1 : decide ((s.size : Int) < n) = true := decide_eq_true hn1
      clear hf
      go_enter Try.func74, Try.ntmps74
      go_wp2_with fail
      refine Reg.wp_region_plan [⟨0, false, []⟩, ⟨1, false, []⟩, ⟨2, false, []⟩, ⟨3, false, []⟩, ⟨4, false, []⟩, ⟨5, false, []⟩, ⟨6, false, []⟩, ⟨7, false, []⟩, ⟨8, false, []⟩, ⟨9, false, []⟩, ⟨10, false, []⟩] rfl (by kernel_rfl) ?_
      repeat (first | (refine Reg.look rfl rfl rfl (by go_simp; rfl) rfl ?_; go_simp) | (refine Reg.skip rfl rfl rfl ?_; go_simp))
      (refine Reg.done ?_; simp only [Exit.then])
      go_wp2_with fail
      go_ret
      exact .inr ⟨HF.out, rfl, (Kp.refl _ _).drew⟩

set_option maxRecDepth 100000 in
set_option maxHeartbeats 1000000 in
theorem c_Count1 (k b g : Nat) (n : Int) (s : ByteArray) (w : World) (hk : Blk w k 3 [.int .i64 n]) (hb : Blk w b 75 [.pointer (some ⟨g, 0, none⟩)]) (hg : IsRd w g s false) (_hs : s.size ≤ 1073741824) :
    Calls Try.prog 73 #[.pointer (some ⟨k, 0, none⟩), .pointer (some ⟨b, 0, none⟩)] w fun e w' => e = .returned (.bool (decide (fits n s))) ∧ Kp No w w' := by
  have k0 : w.cell? ⟨k, 0, none⟩ = some (.int .i64 n) := hk.cell rfl
  have b0 : w.cell? ⟨b, 0, none⟩ = some (.pointer (some ⟨g, 0, none⟩)) := hb.cell rfl
  have g0 : w.cell? ⟨g, 0, none⟩ = some (.string s) := Blk.cell hg rfl
  clear hk hb hg
  by_cases h0 : 0 ≤ n
  · have hd0 : decide ((0 : Int) ≤ n) = true := decide_eq_true h0
    have HF : Hid (decide (fits n s) = decide (n ≤ (s.size : Int))) := Lib.hid (by simp [fits, h0])
    go_enter Try.func73, Try.ntmps73
    go_wp2_with fail
    refine Reg.wp_region_plan [⟨0, false, []⟩, ⟨1, false, []⟩, ⟨2, false, []⟩, ⟨3, false, []⟩, ⟨4, false, []⟩, ⟨5, false, []⟩, ⟨6, false, []⟩, ⟨7, false, []⟩, ⟨8, false, []⟩, ⟨9, false, []⟩, ⟨10, false, []⟩, ⟨11, false, []⟩] rfl (by kernel_rfl) ?_
    repeat (first | (refine Reg.look rfl rfl rfl (by go_simp; rfl) rfl ?_; go_simp) | (refine Reg.skip rfl rfl rfl ?_; go_simp))
    (refine Reg.done ?_; simp only [Exit.then])
    go_wp2_with fail
    go_ret
    exact ⟨by rw [HF.out]; rfl, (Kp.refl _ _).drew⟩
  · have hd0 : decide ((0 : Int) ≤ n) = false := decide_eq_false h0
    have HF : Hid (decide (fits n s) = false) := Lib.hid (by simp [fits, h0])
    go_enter Try.func73, Try.ntmps73
    go_wp2_with fail
    refine Reg.wp_region_plan [⟨0, false, []⟩, ⟨1, false, []⟩, ⟨2, false, []⟩, ⟨3, false, []⟩, ⟨4, false, []⟩, ⟨5, false, []⟩, ⟨6, false, []⟩, ⟨7, false, []⟩, ⟨8, false, []⟩, ⟨9, false, []⟩, ⟨10, false, []⟩, ⟨11, false, []⟩] rfl (by kernel_rfl) ?_
    repeat (first | (refine Reg.look rfl rfl rfl (by go_simp; rfl) rfl ?_; go_simp) | (refine Reg.skip rfl rfl rfl ?_; go_simp))
    (refine Reg.done ?_; simp only [Exit.then])
    go_wp2_with fail
    go_ret
    exact ⟨by rw [HF.out]; rfl, (Kp.refl _ _).drew⟩

set_option maxRecDepth 100000 in
theorem c_Good (g : Nat) (s : ByteArray) (bad : Bool) (w : World) (hg : IsRd w g s bad) :
    Calls Try.prog 55 #[.pointer (some ⟨g, 0, none⟩)] w fun e w' => e = .returned (.bool (!bad)) ∧ Kp No w w' := by
  have g1 : w.cell? ⟨g, 1, none⟩ = some (.bool bad) := Blk.cell hg rfl
  clear hg
  go_enter Try.func55, Try.ntmps55
  go_wp2_with fail
  go_ret
  exact ⟨rfl, Kp.refl _ _⟩

set_option maxRecDepth 100000 in
theorem c_Done (g : Nat) (s : ByteArray) (bad : Bool) (w : World) (hg : IsRd w g s bad) :
    Calls Try.prog 57 #[.pointer (some ⟨g, 0, none⟩)] w fun e w' => e = .returned (.bool (!bad && decide (s.size = 0))) ∧ Kp No w w' := by
  have HG := Lib.hid hg
  clear hg
  go_enter Try.func57, Try.ntmps57
  go_wp2_with fail
  refine (c_Good g s bad w HG.out).mono ?_
  rintro e w1 ⟨rfl, hk⟩
  have HG1 := Lib.hid (Blk.kept HG.out hk (fun x => x))
  have HK := Lib.hid hk
  clear hk
  have g0 : w1.cell? ⟨g, 0, none⟩ = some (.string s) := Blk.cell HG1.out rfl
  cases bad with
  | true =>
    go_wp2_with fail
    go_ret
    exact ⟨rfl, HK.out⟩
  | false =>
    go_wp2_with fail
    go_ret
    exact ⟨congrArg (fun b => Ending.returned (Value.bool b)) (toList_isEmpty s), HK.out⟩

set_option maxRecDepth 100000 in
theorem c_Read (s : ByteArray) (w : World) :
    Calls Try.prog 52 #[.string s] w fun e w' => e = .returned (.pointer (some ⟨w.heap.size, 0, none⟩)) ∧ IsRd w' w.heap.size s false ∧ Kp No w w' := by
  go_enter Try.func52, Try.ntmps52
  go_wp2_with fail
  go_ret
  exact ⟨rfl, Blk.new w _ _, (Kp.refl _ _).alloc _⟩
end Go.Proofs.Ytejmbbnndagejaa
