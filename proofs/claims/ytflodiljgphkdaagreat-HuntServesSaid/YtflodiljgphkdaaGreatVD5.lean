/-
  The document's vault: Open on a drive that was just made.
-/
import Derived.Test.YtflodiljgphkdaaGreatVD4
namespace Go.Proofs.YtflodiljgphkdaaGreat
open Go.RowKit Go.ChangeShapes Go.WideShapes Go.ChangeAt

set_option maxRecDepth 100000 in
set_option maxHeartbeats 2000000 in
theorem e_open {w0 : World} {r : Nat} (w : World) (hd : RNew w0 w r newD) :
    Calls Tryz.prog 9 #[.pointer (some ⟨r, 0, none⟩), .int .i64 1048576] w fun e w' => ∃ m, e = .returned (.tuple #[.pointer (some ⟨m, 0, none⟩), .int .i64 0]) ∧ RVn w0 w' m r (.slice none 0 0) ⟨newD, 1048576, [], []⟩ ∧ Kp No w w' := by
  obtain ⟨fv, hrb⟩ := hd.blk2
  have d2 : w.cell? ⟨r, 2, none⟩ = some (.bool false) := Blk.cell hrb rfl
  have HD := Lib.hid hd
  have HW := Lib.hid hd.kp.size
  have hb := Blk.new w [.pointer (some ⟨r, 0, none⟩), .int .i64 1048576, .slice none 0 0, .slice none 0 0] 54
  have HB := Lib.hid hb
  have hnm := fun w1 (hk : Kp No w w1) => m_names ⟨#[98, 46]⟩ w1 (hd.kept hk) (by show 0 ≤ _; omega)
  have hn0 : namesD ⟨#[98, 46]⟩ newD = [] := rfl
  rw [hn0] at hnm
  have HNM := Lib.hid hnm
  clear hd hrb hb hnm hn0
  go_enter Tryz.func9, Tryz.ntmps9
  go_wp2_with fail
  refine (HNM.out _ ((Kp.refl No w).alloc _)).mono ?_
  rintro e w2 ⟨A, c, rfl, _, hk⟩
  have hk2 : Kp No w w2 := ((Kp.refl No w).alloc _).trans' hk
  have HK := Lib.hid hk2
  have HB2 := Lib.hid (Blk.kept HB.out hk (fun x => x))
  clear hk hk2
  go_wp2_with fail
  go_loopw [8] (fun iv wr => iv = .int .i64 0 ∧ wr = w2) (fun _ _ => 0)
  case atStart => exact ⟨rfl, rfl⟩
  case round =>
    obtain ⟨rfl, rfl⟩ := hrel
    go_wp2_with fail
    go_ret2
    exact ⟨_, rfl, ⟨HB2.out, Own.nil _ _ _ _ _, HD.out.kept HK.out, HW.out⟩, HK.out⟩
end Go.Proofs.YtflodiljgphkdaaGreat
