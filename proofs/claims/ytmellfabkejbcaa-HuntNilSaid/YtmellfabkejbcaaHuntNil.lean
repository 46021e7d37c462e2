/-
  A hunt that is none asks nobody; without chunks nothing goes out: HuntNil answers true for every input. No condition.
-/
import Derived.Test.YtmellfabkejbcaaN1
import Derived.Test.YtmellfabkejbcaaFHuntNil
namespace Go.Proofs.Ytmellfabkejbcaa
open Go.RowKit Go.ChangeShapes Go.WideShapes Go.ChangeAt

theorem wpList_wanted {P : Program} {ops : Array Oper} {rest : List Oper} {o : Oper} {a : Act} {w : World} {Q : Exit → Act → World → Prop} (hw : Region.wanted o (yielded ops a.tmps) = true)
    (h : ∀ K : Act → World → Prop, (∀ a w, wpList P ops Q rest a w → K a w) → o.wp P a w K Q) : wpList P ops Q (o :: rest) a w :=
  wpList_step fun K hK => by rw [if_pos hw]; exact h K hK

set_option maxRecDepth 100000 in
set_option maxHeartbeats 1000000 in
theorem huntNil_walk : HuntNilWalk := by
  intro W v0 l h0
  obtain ⟨A, c, hv, hr1, hr2, _⟩ := id h0
  simp only [List.cons.injEq, and_true] at hv
  subst hv
  have HL := Lib.hid h0
  clear h0
  go_enter Try.func3, Try.ntmps3
  go_wp2_with fail
  refine (awake19 _).mono ?_
  rintro e w2 ⟨rfl, hk2⟩
  have HK2 := Lib.hid hk2
  have HL2 := Lib.hid ((Rp.slice _).keptNo HL.out hk2)
  have hm3 := h_many l A c w2 _ HL2.out
  clear hk2
  by_cases hmany : manyB l = true
  · rw [hmany] at hm3
    go_wp2_with fail
    refine hm3.mono ?_
    rintro e w3 ⟨rfl, rfl⟩
    go_wp2_with fail
    refine (awake19 _).mono ?_
    rintro e w3 ⟨rfl, hk3⟩
    go_wp2_with fail
    go_ret
    exact ⟨rfl, HK2.out.trans' hk3⟩
  · replace hmany : manyB l = false := by simpa using hmany
    have hlen := manyB_length hmany
    rw [hmany] at hm3
    clear hmany
    go_wp2_with fail
    refine hm3.mono ?_
    rintro e w3 ⟨rfl, rfl⟩
    clear hm3
    go_wp2_with (at_builtin; refine wpList_copy_lit (E := Rp.str) rfl w2 (.tmp 15) (.tmp 16) 22 rfl 9 16 elem_str rfl A c (fun k => k < W.heap.size) l rfl HL2.out Rp.str_one (by omega) ?_; intro A5 c5 w5 hown hk5)
    have HK5 := Lib.hid (HK2.out.trans' hk5)
    have HL5 := Lib.hid ((Rp.slice _).keptNo HL2.out hk5)
    clear hown hk5
    refine (h_tick_nil _ w5).mono ?_
    rintro e w6 ⟨rfl, rfl⟩
    go_wp2_with fail
    refine (h_turn_nil w5).mono ?_
    rintro e w6 ⟨rfl, rfl⟩
    go_wp2_with fail
    refine (h_copy_nil w5).mono ?_
    rintro e w6 ⟨rfl, rfl⟩
    go_wp2_with (at_builtin; refine wpList_wanted (by go_simp) fun K hK => wp_copy_lit (E := Rp.str) w5 (.tmp 39) (.tmp 40) 22 rfl 9 16 elem_str rfl A c (fun k => k < W.heap.size) l rfl HL5.out Rp.str_one (by omega) ?_; intro A7 c7 w7 hown hk7; refine hK _ _ ?_)
    have HO7 := Lib.hid ((hown.str_any (fun _ => True)).read (fun _ _ => trivial))
    have HK7 := Lib.hid (HK5.out.trans' hk7)
    clear hown hk7
    refine (h_serve_nil l A7 c7 w7 _ HO7.out (by omega)).mono ?_
    rintro e w8 ⟨rfl, rfl⟩
    go_wp2_with fail
    go_ret
    exact ⟨rfl, HK7.out⟩
theorem huntNil_holds : Rows.HuntNilSaid := huntNil_of huntNil_walk
#print axioms huntNil_holds
end Go.Proofs.Ytmellfabkejbcaa
