/-
  Any parts are put together as the document says, and fit just if they are the chunks of that: CarveJoins answers true for every input. No condition.
-/
import Derived.Test.YtkigojlfbjagoaaC3
import Derived.Test.YtkigojlfbjagoaaMany07
import Derived.Test.YtkigojlfbjagoaaFCarveJoins
namespace Go.Proofs.Ytkigojlfbjagoaa
open Go.RowKit Go.ChangeShapes Go.WideShapes Go.ChangeAt

theorem joinB_size (l : List ByteArray) (h : manyB l = false) : (joinB l).size ≤ 8192 := by
  unfold manyB at h
  replace h : (l.map fun s => 1 + min s.size 1048576).sum ≤ 8192 := by simpa using h
  have : (joinB l).size ≤ (l.map fun s => 1 + min s.size 1048576).sum := by
    unfold joinB
    rw [bs_size]
    induction l with
    | nil => simp
    | cons x l ih =>
      simp only [List.map_cons, List.sum_cons, List.flatten_cons, List.length_append] at h ⊢
      rw [data_length]
      have := ih (by omega)
      omega
  omega
set_option maxHeartbeats 1000000 in
theorem carveJoins_walk : CarveJoinsWalk := by
  intro W v0 l h0
  obtain ⟨A, c, hv, hr1, hr2, hr3⟩ := id h0
  simp only [List.cons.injEq, and_true] at hv
  subst hv
  have HL := Lib.hid h0
  clear h0 hr3
  go_enter Try.func6, Try.ntmps6
  go_wp2_with fail
  refine (awake07 _).mono ?_
  rintro e w2 ⟨rfl, hk2⟩
  have HK2 := Lib.hid hk2
  have HL2 := Lib.hid ((Rp.slice _).keptNo HL.out hk2)
  have hm3 := h_many l A c w2 _ HL2.out
  clear hk2
  by_cases hmany : manyB l = true
  · rw [hmany] at hm3
    go_wp2_with fail
    refine hm3.mono ?_
    rintro e w3 ⟨rfl, rfl⟩
    go_wp2_with fail
    refine (awake07 _).mono ?_
    rintro e w3 ⟨rfl, hk3⟩
    go_wp2_with fail
    go_ret
    exact ⟨rfl, HK2.out.trans' hk3⟩
  · replace hmany : manyB l = false := by simpa using hmany
    have hlen := manyB_length hmany
    have hjs := joinB_size l hmany
    rw [hmany] at hm3
    have HJS := Lib.hid hjs
    clear hmany hjs
    go_wp2_with fail
    refine hm3.mono ?_
    rintro e w3 ⟨rfl, rfl⟩
    clear hm3
    go_wp2_with (at_builtin; refine wpList_copy_lit (E := Rp.str) rfl w2 (.tmp 12) (.tmp 13) 22 rfl 9 16 elem_str rfl A c (fun k => k < W.heap.size) l rfl HL2.out Rp.str_one (by omega) ?_; intro A5 c5 w5 hown hk5)
    have HO5 := Lib.hid (hown.str_any No)
    have HK5 := Lib.hid (HK2.out.trans' hk5)
    have HL5 := Lib.hid ((Rp.slice _).keptNo HL2.out hk5)
    clear hown hk5 HK2 HL2
    refine (c_join l _ _ _ _ _ HO5.out (by omega) (by have := HJS.out; omega)).mono ?_
    rintro e w6 ⟨rfl, hk6⟩
    have HK6 := Lib.hid (HK5.out.trans' hk6)
    have HL6 := Lib.hid ((Rp.slice _).keptNo HL5.out hk6)
    clear hk6 HK5 HL5 HO5
    obtain ⟨J, hJ⟩ : ∃ J, joinB l = J := ⟨_, rfl⟩
    have hfc := fitsB_iff l
    have hrj := fun c w S hl => r_join l A c w S hl (by omega) (by have := HJS.out; omega)
    rw [hJ] at hfc hrj ⊢
    have hJs : J.size ≤ 8192 := by rw [← hJ]; exact HJS.out
    have HRJ := Lib.hid hrj
    have HFC := Lib.hid hfc
    clear hJ hfc hrj HJS
    obtain ⟨ok, hok⟩ : ∃ b, fitsB l = b := ⟨_, rfl⟩
    have hcf := fun A c w S hl => c_fits l A c w S hl (by omega)
    have hrf := fun A c w S hl => r_fits l A c w S hl (by omega)
    rw [hok] at hcf hrf
    have HCF := Lib.hid hcf
    have HRF := Lib.hid hrf
    have HOK := Lib.hid hok
    clear hcf hrf hok
    go_wp2_with (at_builtin; refine wpList_copy_lit (E := Rp.str) rfl w6 (.tmp 16) (.tmp 17) 22 rfl 9 16 elem_str rfl A c (fun k => k < W.heap.size) l rfl HL6.out Rp.str_one (by omega) ?_; intro A7 c7 w7 hown hk7)
    have HO7 := Lib.hid (hown.str_any No)
    have HK7 := Lib.hid (HK6.out.trans' hk7)
    have HL7 := Lib.hid ((Rp.slice _).keptNo HL6.out hk7)
    clear hown hk7 HK6 HL6
    refine (HCF.out _ _ _ (fun _ => True) ((HO7.out.str_any (fun _ => True)).read fun _ _ => trivial)).mono ?_
    rintro e w8 ⟨rfl, rfl⟩
    go_wp2_with fail
    refine (HRJ.out _ _ _ HL7.out).mono ?_
    rintro e w8 ⟨rfl, hk8⟩
    have HK8 := Lib.hid (HK7.out.trans' hk8)
    have HL8 := Lib.hid ((Rp.slice _).keptNo HL7.out hk8)
    clear hk8 HK7 HL7 HO7 HRJ HCF
    go_wp2_with fail
    refine (HRF.out _ _ _ _ HL8.out).mono ?_
    rintro e w9 ⟨rfl, rfl⟩
    clear HRF
    go_wp2_with fail
    refine (c_cut J _ (by omega)).mono ?_
    rintro e w9 ⟨A9, c9, rfl, ho9, hk9⟩
    have hsame := r_same (cutsB J) l A9 A c9 c w9 (fun _ => True) _ ((ho9.str_any (fun _ => True)).read fun _ _ => trivial) ((Rp.slice _).keptNo HL8.out hk9)
    rw [← HFC.out, HOK.out] at hsame
    have HS := Lib.hid hsame
    have HK9 := Lib.hid (HK8.out.trans' hk9)
    clear hsame ho9 hk9 HK8 HL8 HFC HOK
    go_wp2_with fail
    refine HS.out.mono ?_
    rintro e w10 ⟨rfl, m, rfl⟩
    go_wp2_with fail
    go_ret
    exact ⟨by simp, HK9.out.drewN m⟩
theorem carveJoins_holds : Rows.CarveJoinsSaid := carveJoins_of carveJoins_walk
#print axioms carveJoins_holds
end Go.Proofs.Ytkigojlfbjagoaa
