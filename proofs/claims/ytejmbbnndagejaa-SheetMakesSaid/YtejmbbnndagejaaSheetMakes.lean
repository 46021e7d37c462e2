/-
  Any bytes have the sheet that the document says, or are refused: SheetMakes answers true for every input. No condition.
-/
import Derived.Test.YtejmbbnndagejaaH5
import Derived.Test.YtejmbbnndagejaaH6
import Derived.Test.YtejmbbnndagejaaH8
import Derived.Test.YtejmbbnndagejaaH9
import Derived.Test.YtejmbbnndagejaaFSheetMakes
namespace Go.Proofs.Ytejmbbnndagejaa
open Go.RowKit Go.ChangeShapes Go.WideShapes Go.ChangeAt

set_option maxRecDepth 100000 in
set_option maxHeartbeats 2000000 in
theorem sheetMakes_walk : SheetMakesWalk := by
  intro W v0 s h0
  obtain ⟨h0, w0⟩ := h0
  simp only [List.cons.injEq, and_true] at h0
  subst h0
  unfold maxLen at w0
  go_enter Try.func7, Try.ntmps7
  go_wp2_with fail
  refine (awake08 _).mono ?_
  rintro e w2 ⟨rfl, hk2⟩
  have HK2 := Lib.hid hk2
  clear hk2
  by_cases b1 : 2000 < s.size
  · go_wp2_with fail
    refine (awake08 _).mono ?_
    rintro e w3 ⟨rfl, hk3⟩
    go_wp2_with fail
    go_ret
    exact ⟨rfl, HK2.out.trans' hk3⟩
  · by_cases b2 : 512 < s.size
    · go_wp2_with fail
      refine (c_make_big s _ b2).mono ?_
      rintro e w3 ⟨rfl, hk3⟩
      have HK3 := Lib.hid (HK2.out.trans' hk3)
      clear hk3 HK2
      go_wp2_with fail
      obtain ⟨w4, hw4⟩ : ∃ w4, w3.alloc (.cells #[.int .i64 0, .slice none 0 0] 34) = w4 := ⟨_, rfl⟩
      have HS4 : Hid (Blk w4 w3.heap.size 34 [.int .i64 0, .slice none 0 0]) := Lib.hid (by rw [← hw4]; exact Blk.new w3 _ _)
      have HK4 : Hid (Kp No W w4) := Lib.hid (by rw [← hw4]; exact HK3.out.alloc _)
      rw [hw4]
      clear hw4 HK3
      refine (r_make_big s _ b2).mono ?_
      rintro e w5 ⟨rfl, hk5⟩
      have HS5 := Lib.hid (HS4.out.kept hk5 (fun x => x))
      have HK5 := Lib.hid (HK4.out.trans' hk5)
      have c0 : w5.cell? ⟨w3.heap.size, 0, none⟩ = some (.int .i64 0) := HS5.out.cell rfl
      have c1 : w5.cell? ⟨w3.heap.size, 1, none⟩ = some (.slice none 0 0) := HS5.out.cell rfl
      have hlt := HS5.out.lt
      have hne : w3.heap.size ≠ w5.heap.size := by omega
      clear hk5 HK4 HS4
      go_wp2_with fail
      have hsame := r_sameS 0 0 [] [] none none 0 0 (w5.alloc (.cells #[.int .i64 0, .slice none 0 0] 34)) (fun _ => True) (fun _ => True) (Own.read (Own.nil Rp.str _ (fun _ => True) 0 9) (fun _ _ => trivial)) (Own.read (Own.nil Rp.str _ (fun _ => True) 0 9) (fun _ _ => trivial))
      rw [show decide ((0 : Int) = 0 ∧ ([] : List ByteArray) = []) = true from by simp] at hsame
      refine hsame.mono ?_
      rintro e w6 ⟨rfl, hk6⟩
      have HK6 := Lib.hid ((HK5.out.alloc _).trans' hk6)
      clear hk6 hsame
      go_wp2_with fail
      go_ret
      exact ⟨rfl, HK6.out⟩
    · go_wp2_with fail
      refine (c_make s _ (by omega)).mono ?_
      rintro e w3 ⟨⟨A3, c3, rfl, ho3⟩, hk3⟩
      obtain ⟨L, hL⟩ : ∃ L, hashesB s = L := ⟨_, rfl⟩
      rw [hL] at ho3 ⊢
      have HL := Lib.hid hL
      have HK3 := Lib.hid (HK2.out.trans' hk3)
      have HO3 := Lib.hid ((ho3.str_any (fun k => (Value.slice A3 L.length c3).ownBlock = some k)).read (fun k hk => hk))
      clear hk3 HK2 hL ho3
      go_wp2_with fail
      obtain ⟨w4, hw4⟩ : ∃ w4, w3.alloc (.cells #[.int .i64 (s.size : Int), .slice A3 L.length c3] 34) = w4 := ⟨_, rfl⟩
      have HS4 : Hid (Blk w4 w3.heap.size 34 [.int .i64 (s.size : Int), .slice A3 L.length c3]) := Lib.hid (by rw [← hw4]; exact Blk.new w3 _ _)
      have HK34 : Hid (Kp No w3 w4) := Lib.hid (by rw [← hw4]; exact (Kp.refl _ _).alloc _)
      rw [hw4]
      clear hw4
      refine (r_make s _ (by omega)).mono ?_
      rintro e w5 ⟨⟨A5, c5, rfl, ho5⟩, hk5⟩
      rw [HL.out] at ho5 ⊢
      have HO5 := Lib.hid ((ho5.str_any (fun k => (Value.slice A5 L.length c5).ownBlock = some k)).read (fun k hk => hk))
      have HS5 := Lib.hid (HS4.out.kept hk5 (fun x => x))
      have HK35 := Lib.hid (HK34.out.trans' hk5)
      have c0 : w5.cell? ⟨w3.heap.size, 0, none⟩ = some (.int .i64 (s.size : Int)) := HS5.out.cell rfl
      have c1 : w5.cell? ⟨w3.heap.size, 1, none⟩ = some (.slice A3 L.length c3) := HS5.out.cell rfl
      have hlt := HS5.out.lt
      have hne : w3.heap.size ≠ w5.heap.size := by omega
      clear hk5 ho5 HK34 HS4
      go_wp2_with fail
      have hsame := r_sameS (s.size : Int) (s.size : Int) L L A3 A5 c3 c5 (w5.alloc (.cells #[.int .i64 (s.size : Int), .slice A5 L.length c5] 34)) _ _ (Rp.str.slice.keptNo HO3.out (HK35.out.alloc _)) (Rp.str.slice.keptNo HO5.out ((Kp.refl _ _).alloc _))
      rw [show decide ((s.size : Int) = (s.size : Int) ∧ L = L) = true from by simp] at hsame
      refine hsame.mono ?_
      rintro e w6 ⟨rfl, hk6⟩
      have HK6 := Lib.hid (HK3.out.trans' ((HK35.out.alloc _).trans' hk6))
      clear hk6 hsame
      go_wp2_with fail
      go_ret
      exact ⟨rfl, HK6.out⟩
theorem sheetMakes_holds : Rows.SheetMakesSaid := sheetMakes_of sheetMakes_walk
#print axioms sheetMakes_holds
end Go.Proofs.Ytejmbbnndagejaa
