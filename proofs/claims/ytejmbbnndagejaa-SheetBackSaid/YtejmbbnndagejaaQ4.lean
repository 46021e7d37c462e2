/-
  pack.Reader: Text, Count.
-/
import Derived.Test.YtejmbbnndagejaaQ3
namespace Go.Proofs.Ytejmbbnndagejaa
open Go.RowKit Go.ChangeShapes Go.WideShapes Go.ChangeAt

set_option maxRecDepth 100000 in
set_option maxHeartbeats 1000000 in
theorem c_TextS (g : Nat) (s : ByteArray) (bad : Bool) (p : Int × ByteArray × Bool) (hp : numSt s bad = p) (q : ByteArray × ByteArray × Bool) (hq : textOf p = q) (hps : p.2.1.size ≤ 1073741824) (w : World) (hg : IsRd w g s bad) (hs : s.size ≤ 1073741824) :
    Calls Try.prog 56 #[.pointer (some ⟨g, 0, none⟩)] w fun e w' => e = .returned (.string q.1) ∧ IsRd w' g q.2.1 q.2.2 ∧ Kp (· = g) w w' := by
  have HG := Lib.hid hg
  have hgl := Blk.lt hg
  clear hg
  obtain ⟨w1, hw1⟩ : ∃ w1, (w.alloc (.cells #[.pointer (some ⟨g, 0, none⟩)] 75)).alloc (.cells #[.string ByteArray.empty] 9) = w1 := ⟨_, rfl⟩
  have HB : Hid (Blk w1 w.heap.size 75 [.pointer (some ⟨g, 0, none⟩)]) := Lib.hid (by rw [← hw1]; exact (Blk.new w _ _).kept (S := No) ((Kp.refl _ _).alloc _) (fun x => x))
  have HM : Hid (Blk w1 (w.heap.size + 1) 9 [.string ByteArray.empty]) := Lib.hid (by
    rw [← hw1]
    have h := Blk.new (w.alloc (.cells #[.pointer (some ⟨g, 0, none⟩)] 75)) [.string ByteArray.empty] 9
    simpa using h)
  have HK1 : Hid (Kp No w w1) := Lib.hid (by rw [← hw1]; exact ((Kp.refl _ _).alloc _).alloc _)
  have HG1 := Lib.hid (Blk.kept HG.out HK1.out (fun x => x))
  obtain ⟨n, s2, b2⟩ := p
  go_enter Try.func56, Try.ntmps56
  go_wp2_with fail
  rw [show ByteArray.mk #[] = ByteArray.empty from rfl]
  rw [hw1]
  clear hw1
  refine (c_NumS g s bad _ hp w1 HG1.out hs).mono ?_
  rintro e w2 ⟨rfl, hg2, hk2⟩
  have HB2 := Lib.hid (HB.out.kept hk2 (fun e => by omega))
  have HM2 := Lib.hid (HM.out.kept hk2 (fun e => by omega))
  have HG2 := Lib.hid hg2
  have HK2 := Lib.hid (HK1.out.any.trans' hk2)
  have hml := HM2.out.lt
  obtain ⟨w3, hw3⟩ : ∃ w3, w2.alloc (.cells #[.int .i64 n] 3) = w3 := ⟨_, rfl⟩
  have hk3 : Kp No w2 w3 := by rw [← hw3]; exact (Kp.refl _ _).alloc _
  have HN3 : Hid (Blk w3 w2.heap.size 3 [.int .i64 n]) := Lib.hid (by rw [← hw3]; exact Blk.new w2 _ _)
  have HB3 := Lib.hid (HB2.out.kept hk3 (fun x => x))
  have HM3 := Lib.hid (HM2.out.kept hk3 (fun x => x))
  have HG3 := Lib.hid (Blk.kept hg2 hk3 (fun x => x))
  have HK3 := Lib.hid (HK2.out.transNo hk3)
  have b0 : w3.cell? ⟨w.heap.size, 0, none⟩ = some (.pointer (some ⟨g, 0, none⟩)) := HB3.out.cell rfl
  clear hg2 hk2 hk3
  go_wp2_with fail
  clear hw3
  cases b2 with
  | true =>
    have HQ : Hid (q = (ByteArray.empty, s2, true)) := Lib.hid hq.symm
    clear hq
    refine (c_some_bad g s2 _ w3 HG3.out).mono ?_
    rintro e w4 ⟨rfl, hk4⟩
    have HM4 := Lib.hid (HM3.out.kept hk4 (fun x => x))
    have HG4 := Lib.hid (Blk.kept HG3.out hk4 (fun x => x))
    have HK4 := Lib.hid (HK3.out.transNo hk4)
    clear hk4
    have m0 : w4.cell? ⟨w.heap.size + 1, 0, none⟩ = some (.string (ByteArray.empty)) := HM4.out.cell rfl
    have mf := HM4.out.fr 0
    have hmf := HM4.out.set 0 (.string (ByteArray.empty))
    have hgf : IsRd (w4.setCell ⟨w.heap.size + 1, 0, none⟩ (.string (ByteArray.empty))) g (s2) true := Blk.kept (S := (· = w.heap.size + 1)) HG4.out ((Kp.refl (· = w.heap.size + 1) w4).setCell (p := ⟨w.heap.size + 1, 0, none⟩) (fun _ => rfl) _) (fun e => by omega)
    have hkf : Kp (· = g) w (w4.setCell ⟨w.heap.size + 1, 0, none⟩ (.string (ByteArray.empty))) := ((HK4.out.mono (S' := fun k => k = g ∨ k = w.heap.size + 1) (fun _ _ e => by first | exact .inl e | exact e)).setCell (p := ⟨w.heap.size + 1, 0, none⟩) (fun _ => .inr rfl) _).mono (fun k hk e => by rcases e with e | e; exact e; omega)
    have z0 : (w4.setCell ⟨w.heap.size + 1, 0, none⟩ (.string (ByteArray.empty))).cell? ⟨w.heap.size + 1, 0, none⟩ = some (.string (ByteArray.empty)) := Blk.cell hmf rfl
    have HGF := Lib.hid hgf
    have HKF := Lib.hid hkf
    clear hmf hgf hkf
    go_wp2_with fail
    refine bodyPost_ret (results_cell1 rfl _ _ ⟨w.heap.size + 1, 0, none⟩ (.string (ByteArray.empty)) rfl (by go_simp)) rfl ⟨?_, ?_, HKF.out⟩
    · rw [HQ.out]
    · rw [HQ.out]; exact HGF.out
  | false =>
    by_cases hf : fits n s2
    · have HQ : Hid (q = (s2.extract 0 n.toNat, s2.extract n.toNat s2.size, false)) := Lib.hid (by rw [← hq]; exact if_pos hf)
      have HF := Lib.hid hf
      clear hq hf
      refine (c_some g 74 _ s2 w3 HG3.out (fun b w' => b = true ∧ TextEnd g (w.heap.size + 1) w3 n s2 (.returned (.bool true)) w') (enters_of Try.func74 (by kernel_rfl) rfl) ((c_Text1 w2.heap.size w.heap.size (w.heap.size + 1) g n s2 w3 HN3.out HB3.out HM3.out HG3.out hps).mono ?_)).mono ?_
      · rintro e w' (⟨h1, rfl, h2⟩ | ⟨h1, _⟩)
        · exact ⟨true, rfl, ⟨rfl, .inl ⟨h1, rfl, h2⟩⟩, fun h => by cases h⟩
        · exact absurd HF.out h1
      rintro e w4 ⟨rfl, ho⟩
      rcases ho with ⟨_, ho⟩ | ⟨_, ⟨h, _⟩, _⟩
      rotate_left
      · cases h
      rcases ho with ⟨_, _, hg4, hm4, hk4⟩ | ⟨_, h, _⟩
      rotate_left
      · cases h
      have HM4 := Lib.hid hm4
      have HG4 := Lib.hid hg4
      have HK4 := Lib.hid ((HK3.out.mono (S' := fun k => k = g ∨ k = w.heap.size + 1) (fun _ _ e => .inl e)).trans' hk4)
      clear hk4 hm4 hg4
      have m0 : w4.cell? ⟨w.heap.size + 1, 0, none⟩ = some (.string (s2.extract 0 n.toNat)) := HM4.out.cell rfl
      have mf := HM4.out.fr 0
      have hmf := HM4.out.set 0 (.string (s2.extract 0 n.toNat))
      have hgf : IsRd (w4.setCell ⟨w.heap.size + 1, 0, none⟩ (.string (s2.extract 0 n.toNat))) g (s2.extract n.toNat s2.size) false := Blk.kept (S := (· = w.heap.size + 1)) HG4.out ((Kp.refl (· = w.heap.size + 1) w4).setCell (p := ⟨w.heap.size + 1, 0, none⟩) (fun _ => rfl) _) (fun e => by omega)
      have hkf : Kp (· = g) w (w4.setCell ⟨w.heap.size + 1, 0, none⟩ (.string (s2.extract 0 n.toNat))) := ((HK4.out.mono (S' := fun k => k = g ∨ k = w.heap.size + 1) (fun _ _ e => by first | exact .inl e | exact e)).setCell (p := ⟨w.heap.size + 1, 0, none⟩) (fun _ => .inr rfl) _).mono (fun k hk e => by rcases e with e | e; exact e; omega)
      have z0 : (w4.setCell ⟨w.heap.size + 1, 0, none⟩ (.string (s2.extract 0 n.toNat))).cell? ⟨w.heap.size + 1, 0, none⟩ = some (.string (s2.extract 0 n.toNat)) := Blk.cell hmf rfl
      have HGF := Lib.hid hgf
      have HKF := Lib.hid hkf
      clear hmf hgf hkf
      go_wp2_with fail
      refine bodyPost_ret (results_cell1 rfl _ _ ⟨w.heap.size + 1, 0, none⟩ (.string (s2.extract 0 n.toNat)) rfl (by go_simp)) rfl ⟨?_, ?_, HKF.out⟩
      · rw [HQ.out]
      · rw [HQ.out]; exact HGF.out
    · have HQ : Hid (q = (ByteArray.empty, s2, true)) := Lib.hid (by rw [← hq]; exact if_neg hf)
      have HF := Lib.hid hf
      clear hq hf
      refine (c_some g 74 _ s2 w3 HG3.out (fun b w' => b = false ∧ Kp No w3 w') (enters_of Try.func74 (by kernel_rfl) rfl) ((c_Text1 w2.heap.size w.heap.size (w.heap.size + 1) g n s2 w3 HN3.out HB3.out HM3.out HG3.out hps).mono ?_)).mono ?_
      · rintro e w' (⟨h1, _⟩ | ⟨_, rfl, h2⟩)
        · exact absurd h1 HF.out
        · exact ⟨false, rfl, ⟨rfl, h2⟩, fun _ => Blk.kept HG3.out h2 (fun x => x)⟩
      rintro e w4 ⟨rfl, ho⟩
      rcases ho with ⟨h, _⟩ | ⟨w5, ⟨_, hk5⟩, hg4, hk4⟩
      · cases h
      have HM4 := Lib.hid ((HM3.out.kept hk5 (fun x => x)).kept hk4 (fun e => by omega))
      have HG4 := Lib.hid hg4
      have HK4 := Lib.hid ((HK3.out.transNo hk5).trans' hk4)
      clear hk4 hk5 hg4
      have m0 : w4.cell? ⟨w.heap.size + 1, 0, none⟩ = some (.string (ByteArray.empty)) := HM4.out.cell rfl
      have mf := HM4.out.fr 0
      have hmf := HM4.out.set 0 (.string (ByteArray.empty))
      have hgf : IsRd (w4.setCell ⟨w.heap.size + 1, 0, none⟩ (.string (ByteArray.empty))) g (s2) true := Blk.kept (S := (· = w.heap.size + 1)) HG4.out ((Kp.refl (· = w.heap.size + 1) w4).setCell (p := ⟨w.heap.size + 1, 0, none⟩) (fun _ => rfl) _) (fun e => by omega)
      have hkf : Kp (· = g) w (w4.setCell ⟨w.heap.size + 1, 0, none⟩ (.string (ByteArray.empty))) := ((HK4.out.mono (S' := fun k => k = g ∨ k = w.heap.size + 1) (fun _ _ e => by first | exact .inl e | exact e)).setCell (p := ⟨w.heap.size + 1, 0, none⟩) (fun _ => .inr rfl) _).mono (fun k hk e => by rcases e with e | e; exact e; omega)
      have z0 : (w4.setCell ⟨w.heap.size + 1, 0, none⟩ (.string (ByteArray.empty))).cell? ⟨w.heap.size + 1, 0, none⟩ = some (.string (ByteArray.empty)) := Blk.cell hmf rfl
      have HGF := Lib.hid hgf
      have HKF := Lib.hid hkf
      clear hmf hgf hkf
      go_wp2_with fail
      refine bodyPost_ret (results_cell1 rfl _ _ ⟨w.heap.size + 1, 0, none⟩ (.string (ByteArray.empty)) rfl (by go_simp)) rfl ⟨?_, ?_, HKF.out⟩
      · rw [HQ.out]
      · rw [HQ.out]; exact HGF.out

set_option maxRecDepth 100000 in
set_option maxHeartbeats 1000000 in
theorem c_CountS (g : Nat) (s : ByteArray) (bad : Bool) (p : Int × ByteArray × Bool) (hp : numSt s bad = p) (q : Int × ByteArray × Bool) (hq : countOf p = q) (hps : p.2.1.size ≤ 1073741824) (w : World) (hg : IsRd w g s bad) (hs : s.size ≤ 1073741824) :
    Calls Try.prog 54 #[.pointer (some ⟨g, 0, none⟩)] w fun e w' => e = .returned (.int .i64 q.1) ∧ IsRd w' g q.2.1 q.2.2 ∧ Kp (· = g) w w' := by
  have HG := Lib.hid hg
  have hgl := Blk.lt hg
  clear hg
  obtain ⟨w1, hw1⟩ : ∃ w1, (w.alloc (.cells #[.pointer (some ⟨g, 0, none⟩)] 75)).alloc (.cells #[.int .i64 0] 3) = w1 := ⟨_, rfl⟩
  have HB : Hid (Blk w1 w.heap.size 75 [.pointer (some ⟨g, 0, none⟩)]) := Lib.hid (by rw [← hw1]; exact (Blk.new w _ _).kept (S := No) ((Kp.refl _ _).alloc _) (fun x => x))
  have HM : Hid (Blk w1 (w.heap.size + 1) 3 [.int .i64 0]) := Lib.hid (by
    rw [← hw1]
    have h := Blk.new (w.alloc (.cells #[.pointer (some ⟨g, 0, none⟩)] 75)) [.int .i64 0] 3
    simpa using h)
  have HK1 : Hid (Kp No w w1) := Lib.hid (by rw [← hw1]; exact ((Kp.refl _ _).alloc _).alloc _)
  have HG1 := Lib.hid (Blk.kept HG.out HK1.out (fun x => x))
  obtain ⟨n, s2, b2⟩ := p
  go_enter Try.func54, Try.ntmps54
  have b0 : w1.cell? ⟨w.heap.size, 0, none⟩ = some (.pointer (some ⟨g, 0, none⟩)) := HB.out.cell rfl
  go_wp2_with fail
  clear hw1 b0
  refine (c_NumS g s bad _ hp w1 HG1.out hs).mono ?_
  rintro e w2 ⟨rfl, hg2, hk2⟩
  have HB2 := Lib.hid (HB.out.kept hk2 (fun e => by omega))
  have HM2 := HM.out.kept hk2 (fun e => by omega)
  have m0 : w2.cell? ⟨w.heap.size + 1, 0, none⟩ = some (.int .i64 0) := HM2.cell rfl
  have mf := HM2.fr 0
  obtain ⟨w3, hw3⟩ : ∃ w3, w2.setCell ⟨w.heap.size + 1, 0, none⟩ (.int .i64 n) = w3 := ⟨_, rfl⟩
  have hk3 : Kp (· = w.heap.size + 1) w2 w3 := by rw [← hw3]; exact (Kp.refl (· = w.heap.size + 1) _).setCell (p := ⟨w.heap.size + 1, 0, none⟩) (fun _ => rfl) _
  have HM3 : Hid (Blk w3 (w.heap.size + 1) 3 [.int .i64 n]) := Lib.hid (by rw [← hw3]; exact HM2.set 0 (.int .i64 n))
  have HB3 := Lib.hid (HB2.out.kept hk3 (fun e => by omega))
  have HG3 := Lib.hid (Blk.kept hg2 hk3 (fun e => by omega))
  have HK3 : Hid (Kp (fun k => k = g ∨ k = w.heap.size + 1) w w3) := Lib.hid (((HK1.out.any.trans' hk2).mono (fun _ _ e => .inl e)).trans hk3 (fun _ _ e => .inr e))
  have b0 : w3.cell? ⟨w.heap.size, 0, none⟩ = some (.pointer (some ⟨g, 0, none⟩)) := HB3.out.cell rfl
  clear hg2 hk2 hk3 HM2
  go_wp2_with fail
  clear hw3 m0 mf
  cases b2 with
  | true =>
    have HQ : Hid (q = (0, s2, true)) := Lib.hid hq.symm
    clear hq
    refine (c_some_bad g s2 _ w3 HG3.out).mono ?_
    rintro e w4 ⟨rfl, hk4⟩
    have HM4 := Lib.hid (HM3.out.kept hk4 (fun x => x))
    have HG4 := Lib.hid (Blk.kept HG3.out hk4 (fun x => x))
    have HB4 := Lib.hid (HB3.out.kept hk4 (fun x => x))
    have HK4 := Lib.hid (HK3.out.transNo hk4)
    clear hk4
    have b0 : w4.cell? ⟨w.heap.size, 0, none⟩ = some (.pointer (some ⟨g, 0, none⟩)) := HB4.out.cell rfl
    go_wp2_with fail
    refine (c_Good g s2 true w4 HG4.out).mono ?_
    rintro e w6 ⟨rfl, hk6⟩
    have HM6 := Lib.hid (HM4.out.kept hk6 (fun x => x))
    have HG6 := Lib.hid (Blk.kept HG4.out hk6 (fun x => x))
    have HK6 := Lib.hid (HK4.out.transNo hk6)
    clear hk6 b0
    have m0 : w6.cell? ⟨w.heap.size + 1, 0, none⟩ = some (.int .i64 n) := HM6.out.cell rfl
    have mf := HM6.out.fr 0
    have hgf : IsRd (w6.setCell ⟨w.heap.size + 1, 0, none⟩ (.int .i64 0)) g s2 true := Blk.kept (S := (· = w.heap.size + 1)) HG6.out ((Kp.refl (· = w.heap.size + 1) w6).setCell (p := ⟨w.heap.size + 1, 0, none⟩) (fun _ => rfl) _) (fun e => by omega)
    have hkf : Kp (· = g) w (w6.setCell ⟨w.heap.size + 1, 0, none⟩ (.int .i64 0)) := (HK6.out.setCell (p := ⟨w.heap.size + 1, 0, none⟩) (fun _ => .inr rfl) _).mono (fun k hk e => by rcases e with e | e; exact e; omega)
    have HGF := Lib.hid hgf
    have HKF := Lib.hid hkf
    clear hgf hkf
    go_wp2_with fail
    refine bodyPost_ret (results_cell1 rfl _ _ ⟨w.heap.size + 1, 0, none⟩ (.int .i64 0) rfl (by go_simp)) rfl ⟨?_, ?_, HKF.out⟩
    · rw [HQ.out]
    · rw [HQ.out]; exact HGF.out
  | false =>
    by_cases hf : fits n s2
    · have HQ : Hid (q = (n, s2, false)) := Lib.hid (by rw [← hq]; exact if_pos hf)
      have HF := Lib.hid hf
      clear hq hf
      refine (c_some g 73 _ s2 w3 HG3.out (fun b w' => b = true ∧ Kp No w3 w') (enters_of Try.func73 (by kernel_rfl) rfl) ((c_Count1 (w.heap.size + 1) w.heap.size g n s2 w3 HM3.out HB3.out HG3.out hps).mono ?_)).mono ?_
      · rintro e w' ⟨rfl, h2⟩
        exact ⟨true, by rw [decide_eq_true HF.out], ⟨rfl, h2⟩, fun h => by cases h⟩
      rintro e w4 ⟨rfl, ho⟩
      rcases ho with ⟨_, hk4⟩ | ⟨_, ⟨h, _⟩, _⟩
      rotate_left
      · cases h
      have HM4 := Lib.hid (HM3.out.kept hk4 (fun x => x))
      have HG4 := Lib.hid (Blk.kept HG3.out hk4 (fun x => x))
      have HB4 := Lib.hid (HB3.out.kept hk4 (fun x => x))
      have HK4 := Lib.hid (HK3.out.transNo hk4)
      clear hk4
      have b0 : w4.cell? ⟨w.heap.size, 0, none⟩ = some (.pointer (some ⟨g, 0, none⟩)) := HB4.out.cell rfl
      go_wp2_with fail
      refine (c_Good g s2 false w4 HG4.out).mono ?_
      rintro e w5 ⟨rfl, hk5⟩
      have HM5 := Lib.hid (HM4.out.kept hk5 (fun x => x))
      have HG5 := Lib.hid (Blk.kept HG4.out hk5 (fun x => x))
      have HK5 := Lib.hid (HK4.out.transNo hk5)
      clear hk5 b0
      have m0 : w5.cell? ⟨w.heap.size + 1, 0, none⟩ = some (.int .i64 n) := HM5.out.cell rfl
      have mf := HM5.out.fr 0
      have hmf := HM5.out.set 0 (.int .i64 n)
      have hgf : IsRd (w5.setCell ⟨w.heap.size + 1, 0, none⟩ (.int .i64 n)) g s2 false := Blk.kept (S := (· = w.heap.size + 1)) HG5.out ((Kp.refl (· = w.heap.size + 1) w5).setCell (p := ⟨w.heap.size + 1, 0, none⟩) (fun _ => rfl) _) (fun e => by omega)
      have hkf : Kp (· = g) w (w5.setCell ⟨w.heap.size + 1, 0, none⟩ (.int .i64 n)) := (HK5.out.setCell (p := ⟨w.heap.size + 1, 0, none⟩) (fun _ => .inr rfl) _).mono (fun k hk e => by rcases e with e | e; exact e; omega)
      have z0 : (w5.setCell ⟨w.heap.size + 1, 0, none⟩ (.int .i64 n)).cell? ⟨w.heap.size + 1, 0, none⟩ = some (.int .i64 n) := Blk.cell hmf rfl
      have HGF := Lib.hid hgf
      have HKF := Lib.hid hkf
      clear hmf hgf hkf
      go_wp2_with fail
      refine bodyPost_ret (results_cell1 rfl _ _ ⟨w.heap.size + 1, 0, none⟩ (.int .i64 n) rfl (by go_simp)) rfl ⟨?_, ?_, HKF.out⟩
      · rw [HQ.out]
      · rw [HQ.out]; exact HGF.out
    · have HQ : Hid (q = (0, s2, true)) := Lib.hid (by rw [← hq]; exact if_neg hf)
      have HF := Lib.hid hf
      clear hq hf
      refine (c_some g 73 _ s2 w3 HG3.out (fun b w' => b = false ∧ Kp No w3 w') (enters_of Try.func73 (by kernel_rfl) rfl) ((c_Count1 (w.heap.size + 1) w.heap.size g n s2 w3 HM3.out HB3.out HG3.out hps).mono ?_)).mono ?_
      · rintro e w' ⟨rfl, h2⟩
        exact ⟨false, by rw [decide_eq_false HF.out], ⟨rfl, h2⟩, fun _ => Blk.kept HG3.out h2 (fun x => x)⟩
      rintro e w4 ⟨rfl, ho⟩
      rcases ho with ⟨h, _⟩ | ⟨w5, ⟨_, hk5⟩, hg4, hk4⟩
      · cases h
      have HM4 := Lib.hid ((HM3.out.kept hk5 (fun x => x)).kept hk4 (fun e => by omega))
      have HB4 := Lib.hid ((HB3.out.kept hk5 (fun x => x)).kept hk4 (fun e => by omega))
      have HG4 := Lib.hid hg4
      have HK4 := Lib.hid ((HK3.out.transNo hk5).trans hk4 (fun _ _ e => .inl e))
      clear hk4 hk5 hg4
      have b0 : w4.cell? ⟨w.heap.size, 0, none⟩ = some (.pointer (some ⟨g, 0, none⟩)) := HB4.out.cell rfl
      go_wp2_with fail
      refine (c_Good g s2 true w4 HG4.out).mono ?_
      rintro e w6 ⟨rfl, hk6⟩
      have HM6 := Lib.hid (HM4.out.kept hk6 (fun x => x))
      have HG6 := Lib.hid (Blk.kept HG4.out hk6 (fun x => x))
      have HK6 := Lib.hid (HK4.out.transNo hk6)
      clear hk6 b0
      have m0 : w6.cell? ⟨w.heap.size + 1, 0, none⟩ = some (.int .i64 n) := HM6.out.cell rfl
      have mf := HM6.out.fr 0
      have hgf : IsRd (w6.setCell ⟨w.heap.size + 1, 0, none⟩ (.int .i64 0)) g s2 true := Blk.kept (S := (· = w.heap.size + 1)) HG6.out ((Kp.refl (· = w.heap.size + 1) w6).setCell (p := ⟨w.heap.size + 1, 0, none⟩) (fun _ => rfl) _) (fun e => by omega)
      have hkf : Kp (· = g) w (w6.setCell ⟨w.heap.size + 1, 0, none⟩ (.int .i64 0)) := (HK6.out.setCell (p := ⟨w.heap.size + 1, 0, none⟩) (fun _ => .inr rfl) _).mono (fun k hk e => by rcases e with e | e; exact e; omega)
      have HGF := Lib.hid hgf
      have HKF := Lib.hid hkf
      clear hgf hkf
      go_wp2_with fail
      refine bodyPost_ret (results_cell1 rfl _ _ ⟨w.heap.size + 1, 0, none⟩ (.int .i64 0) rfl (by go_simp)) rfl ⟨?_, ?_, HKF.out⟩
      · rw [HQ.out]
      · rw [HQ.out]; exact HGF.out
end Go.Proofs.Ytejmbbnndagejaa
