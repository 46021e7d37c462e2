/-
  The functions of carve that read parts: Fits, Join; the reference's.
-/
import Derived.Test.YtkigojlfbjagoaaC1
import Derived.Test.YtkigojlfbjagoaaBytes
import Derived.Test.YtkigojlfbjagoaaShelf
namespace Go.Proofs.Ytkigojlfbjagoaa
open Go.RowKit Go.ChangeShapes Go.WideShapes Go.ChangeAt

/-- Is it a chunk where it stands? -/
def FitAt (n i : Nat) (p : ByteArray) : Prop := 1 ≤ p.size ∧ p.size ≤ 64 ∧ (i + 1 < n → p.size = 64)
theorem fitsB_at (l : List ByteArray) : fitsB l = true ↔ ∀ i p, l[i]? = some p → FitAt l.length i p := by
  unfold fitsB
  rw [fitsL_iff]
  have key : ∀ (i : Nat) (hi : i < l.length), ((l.map (·.data.toList)).getD i []).length = (l[i]).size := by
    intro i hi
    rw [List.getD_eq_getElem?_getD, List.getElem?_map, List.getElem?_eq_getElem hi]; rfl
  rw [List.length_map]
  constructor
  · intro h i p hp
    obtain ⟨hi, rfl⟩ := List.getElem?_eq_some_iff.1 hp
    have := h i hi
    rwa [key i hi] at this
  · intro h i hi
    have := h i _ (List.getElem?_eq_getElem hi)
    rwa [key i hi]
theorem fitsB_not (l : List ByteArray) (i : Nat) (p : ByteArray) (hp : l[i]? = some p) (h : ¬ FitAt l.length i p) : fitsB l = false := by
  cases h2 : fitsB l with
  | false => rfl
  | true => exact absurd ((fitsB_at l).1 h2 i p hp) h
/-- amid the looking -/
def FitRel (l : List ByteArray) (k : Nat) : Prop := ∀ i p, i < k → l[i]? = some p → FitAt l.length i p
theorem FitRel.step {l : List ByteArray} {k : Nat} {p : ByteArray} (h : FitRel l k) (hp : l[k]? = some p) (hf : FitAt l.length k p) : FitRel l (k + 1) := by
  intro i q hi hq
  rcases Nat.lt_or_ge i k with hlt | hge
  · exact h i q hlt hq
  · obtain rfl : i = k := by omega
    rw [hp] at hq; injection hq with hq; subst hq; exact hf
theorem FitRel.stop {l : List ByteArray} (h : FitRel l l.length) : fitsB l = true := (fitsB_at l).2 fun i p hp => h i p (List.getElem?_eq_some_iff.1 hp).1 hp

set_option maxHeartbeats 1000000 in
theorem c_fits (l : List ByteArray) (A : Option Addr) (c : Nat) (w : World) (S : Nat → Prop) (hl : Rp.str.slice.R w S [.slice A l.length c] l) (hn : l.length ≤ 1048576) :
    Calls Try.prog 23 #[.slice A l.length c] w fun e w' => e = .returned (.bool (fitsB l)) ∧ w = w' := by
  have h0 : Hid (FitRel l 0) := Lib.hid fun i p hi => absurd hi (Nat.not_lt_zero _)
  have HL := Lib.hid hl
  clear hl
  go_enter Try.func23, Try.ntmps23
  go_wp2_with fail
  go_loop [7] (fun i => ∃ k : Nat, k ≤ l.length ∧ i = .int .i64 k ∧ Hid (FitRel l k)) (fun i => l.length - (intOf i).toNat)
  case atStart => exact ⟨0, Nat.zero_le _, rfl, h0⟩
  case round =>
    obtain ⟨k, hk, rfl, hr⟩ := hrel
    by_cases hlt : k < l.length
    · obtain ⟨x, hx⟩ : ∃ x, l[k]? = some x := ⟨_, List.getElem?_eq_getElem hlt⟩
      obtain ⟨ad, rfl, _, hcell, hxm⟩ := Rp.at_str HL.out hx
      have HX := Lib.hid hx
      clear hx
      have hemp : x.toList.isEmpty = decide (x.size = 0) := toList_isEmpty x
      have e1 : IntKind.i64.wrap ((l.length : Int) - 1) = (l.length : Int) - 1 := by rw [IntKind.wrap_i64]; omega
      by_cases hf : 1 ≤ x.size ∧ x.size ≤ 64 ∧ (k + 1 < l.length → x.size = 64)
      · have HF := Lib.hid (show FitAt l.length k x from hf)
        obtain ⟨f1, f2, f3⟩ := hf
        have hz : decide (x.size = 0) = false := by rw [decide_eq_false_iff_not]; omega
        rw [hz] at hemp
        have f4 : ¬ (x.size = 0) := by omega
        clear hz
        by_cases h64 : x.size = 64
        · have f5 : ¬ ((x.size : Int) < 64) := by omega
          clear f3
          go_wp2_with fail
          all_goals
            go_round
            · exact ⟨k + 1, by omega, by go_num, Lib.hid (hr.out.step HX.out HF.out)⟩
            · simp [intOf]; omega
        · have f5 : (x.size : Int) < 64 := by omega
          have f6 : ¬ ((k : Int) < (l.length : Int) - 1) := by intro h; exact h64 (f3 (by omega))
          clear f3
          go_wp2_with fail
          all_goals
            go_round
            · exact ⟨k + 1, by omega, by go_num, Lib.hid (hr.out.step HX.out HF.out)⟩
            · simp [intOf]; omega
      · have hq := fitsB_not l k x HX.out hf
        have HQ := Lib.hid hq
        clear hq
        by_cases h0 : x.size = 0
        · rw [decide_eq_true h0] at hemp
          have f0 : (x.size : Int) < 1 := by omega
          clear hf
          go_wp2_with fail
          all_goals go_ret
          all_goals exact ⟨congrArg (fun b => Ending.returned (Value.bool b)) HQ.out.symm, rfl⟩
        · rw [decide_eq_false h0] at hemp
          have f0 : ¬ (x.size : Int) < 1 := by omega
          by_cases h64 : 64 < x.size
          · have f1 : (64 : Int) < (x.size : Int) := by omega
            clear hf
            go_wp2_with fail
            all_goals go_ret
            all_goals exact ⟨congrArg (fun b => Ending.returned (Value.bool b)) HQ.out.symm, rfl⟩
          · have f1 : ¬ (64 : Int) < (x.size : Int) := by omega
            have f2 : k + 1 < l.length ∧ x.size < 64 := by omega
            have f3 : (x.size : Int) < 64 := by omega
            have f4 : (k : Int) < (l.length : Int) - 1 := by omega
            clear hf f2
            go_wp2_with fail
            all_goals go_ret
            all_goals exact ⟨congrArg (fun b => Ending.returned (Value.bool b)) HQ.out.symm, rfl⟩
    · obtain rfl : k = l.length := by omega
      have HQ := Lib.hid hr.out.stop
      go_wp2_with fail
      go_ret
      exact ⟨congrArg (fun b => Ending.returned (Value.bool b)) HQ.out.symm, rfl⟩

set_option maxHeartbeats 1000000 in
theorem r_fits (l : List ByteArray) (A : Option Addr) (c : Nat) (w : World) (S : Nat → Prop) (hl : Rp.str.slice.R w S [.slice A l.length c] l) (hn : l.length ≤ 1048576) :
    Calls Try.prog 25 #[.slice A l.length c] w fun e w' => e = .returned (.bool (fitsB l)) ∧ w = w' := by
  have h0 : Hid (FitRel l 0) := Lib.hid fun i p hi => absurd hi (Nat.not_lt_zero _)
  have HL := Lib.hid hl
  clear hl
  go_enter Try.func25, Try.ntmps25
  go_wp2_with fail
  go_loop [3] (fun i => ∃ k : Nat, k ≤ l.length ∧ i = .int .i64 k ∧ Hid (FitRel l k)) (fun i => l.length - (intOf i).toNat)
  case atStart => exact ⟨0, Nat.zero_le _, rfl, h0⟩
  case round =>
    obtain ⟨k, hk, rfl, hr⟩ := hrel
    by_cases hlt : k < l.length
    · obtain ⟨x, hx⟩ : ∃ x, l[k]? = some x := ⟨_, List.getElem?_eq_getElem hlt⟩
      obtain ⟨ad, rfl, _, hcell, hxm⟩ := Rp.at_str HL.out hx
      have HX := Lib.hid hx
      clear hx
      have hemp : x.toList.isEmpty = decide (x.size = 0) := toList_isEmpty x
      have e1 : IntKind.i64.wrap ((l.length : Int) - 1) = (l.length : Int) - 1 := by rw [IntKind.wrap_i64]; omega
      by_cases hf : 1 ≤ x.size ∧ x.size ≤ 64 ∧ (k + 1 < l.length → x.size = 64)
      · have HF := Lib.hid (show FitAt l.length k x from hf)
        obtain ⟨f1, f2, f3⟩ := hf
        have hz : decide (x.size = 0) = false := by rw [decide_eq_false_iff_not]; omega
        rw [hz] at hemp
        have f4 : ¬ (x.size = 0) := by omega
        clear hz
        by_cases h64 : x.size = 64
        · have f5 : ¬ ((x.size : Int) < 64) := by omega
          clear f3
          go_wp2_with fail
          all_goals
            go_round
            · exact ⟨k + 1, by omega, by go_num, Lib.hid (hr.out.step HX.out HF.out)⟩
            · simp [intOf]; omega
        · have f5 : (x.size : Int) < 64 := by omega
          have f6 : ¬ ((k : Int) < (l.length : Int) - 1) := by intro h; exact h64 (f3 (by omega))
          clear f3
          go_wp2_with fail
          all_goals
            go_round
            · exact ⟨k + 1, by omega, by go_num, Lib.hid (hr.out.step HX.out HF.out)⟩
            · simp [intOf]; omega
      · have hq := fitsB_not l k x HX.out hf
        have HQ := Lib.hid hq
        clear hq
        by_cases h0 : x.size = 0
        · rw [decide_eq_true h0] at hemp
          have f0 : (x.size : Int) < 1 := by omega
          clear hf
          go_wp2_with fail
          all_goals go_ret
          all_goals exact ⟨congrArg (fun b => Ending.returned (Value.bool b)) HQ.out.symm, rfl⟩
        · rw [decide_eq_false h0] at hemp
          have f0 : ¬ (x.size : Int) < 1 := by omega
          by_cases h64 : 64 < x.size
          · have f1 : (64 : Int) < (x.size : Int) := by omega
            clear hf
            go_wp2_with fail
            all_goals go_ret
            all_goals exact ⟨congrArg (fun b => Ending.returned (Value.bool b)) HQ.out.symm, rfl⟩
          · have f1 : ¬ (64 : Int) < (x.size : Int) := by omega
            have f2 : k + 1 < l.length ∧ x.size < 64 := by omega
            have f3 : (x.size : Int) < 64 := by omega
            have f4 : (k : Int) < (l.length : Int) - 1 := by omega
            clear hf f2
            go_wp2_with fail
            all_goals go_ret
            all_goals exact ⟨congrArg (fun b => Ending.returned (Value.bool b)) HQ.out.symm, rfl⟩
    · obtain rfl : k = l.length := by omega
      have HQ := Lib.hid hr.out.stop
      go_wp2_with fail
      go_ret
      exact ⟨congrArg (fun b => Ending.returned (Value.bool b)) HQ.out.symm, rfl⟩

theorem bytely : Bytely Try.prog 44 9 5 := Bytely.of Try.underlying44 Try.underlying9 Try.underlying5 (by kernel_rfl)

theorem r_join (l : List ByteArray) (A : Option Addr) (c : Nat) (w : World) (S : Nat → Prop) (hl : Rp.str.slice.R w S [.slice A l.length c] l) (hn : l.length ≤ 1048576) (hs : (joinB l).size ≤ 1048576) :
    Calls Try.prog 24 #[.slice A l.length c] w fun e w' => e = .returned (.string (joinB l)) ∧ Kp No w w' := by
  have HL := Lib.hid hl
  clear hl
  go_enter Try.func24, Try.ntmps24
  go_wp2_with fail
  go_loopw [3, 4] (fun ov iv wr => ∃ k : Nat, k ≤ l.length ∧ iv = .int .i64 k ∧ Own Rp.byte wr No w.heap.size 5 ov ((l.take k).map (·.data.toList)).flatten ∧ Kp No w wr) (fun _ iv _ => l.length - (intOf iv).toNat)
  case atStart => exact ⟨0, Nat.zero_le _, rfl, Own.lit (heap_alloc_new w _) (Nat.le_refl _), (Kp.refl _ _).alloc _⟩
  case round =>
    obtain ⟨k, hk, rfl, hown, hkp⟩ := hrel
    by_cases hlt : k < l.length
    · obtain ⟨Av, cv, rfl⟩ := hown.shape
      obtain ⟨x, hx⟩ : ∃ x, l[k]? = some x := ⟨_, List.getElem?_eq_getElem hlt⟩
      have hl3 := (Rp.slice _).keptNo HL.out hkp
      obtain ⟨ad, rfl, _, hcell, hxm⟩ := Rp.at_str hl3 hx
      have hstep : ((l.take (k + 1)).map (·.data.toList)).flatten = ((l.take k).map (·.data.toList)).flatten ++ x.data.toList := by
        obtain ⟨h, rfl⟩ := List.getElem?_eq_some_iff.1 hx
        rw [List.take_succ_eq_append_getElem h, List.map_append, List.flatten_append]; simp
      have hle : ((l.take (k + 1)).map (·.data.toList)).flatten.length ≤ (joinB l).size := by
        unfold joinB
        rw [bs_size]
        conv => rhs; rw [← List.take_append_drop (k + 1) l, List.map_append, List.flatten_append, List.length_append]
        omega
      rw [hstep, List.length_append, data_length] at hle
      have HS := Lib.hid hstep
      have HO := Lib.hid hown
      have HK := Lib.hid hkp
      clear hstep hown hkp hl3 hx
      generalize ((l.take k).map (·.data.toList)).flatten = D at *
      go_wp2_with (at_builtin; refine wpList_append_text rfl _ (.tmp 12) (.tmp 16) 44 9 rfl w.heap.size 5 bytely No (.slice Av D.length cv) D rfl HO.out x rfl ?d1 ?d2 ?_)
      case d1 => omega
      case d2 => have := HK.out.size; omega
      intro v' w3 hown hgr
      have hkr : Kp (fun k => (Value.slice Av D.length cv).ownBlock = some k) wr w3 := (Kp.refl _ _).grown hgr (fun g hg _ => hg)
      have HO3 := Lib.hid hown
      have HK3 := Lib.hid (HK.out.trans hkr (fun i hi hv => absurd (HO.out.lt i hv).1 (by omega)))
      clear hown hgr hkr
      go_wp2_with fail
      go_roundw
      case rel => exact ⟨k + 1, by omega, by go_num, by rw [HS.out]; exact HO3.out, HK3.out⟩
      case measure => simp [intOf]; omega
    · obtain rfl : k = l.length := by omega
      rw [List.take_length] at hown
      obtain ⟨J, hJ⟩ : ∃ J, (l.map (·.data.toList)).flatten = J := ⟨_, rfl⟩
      have HJ : Hid (joinB l = bs J) := Lib.hid (by unfold joinB; rw [hJ])
      rw [hJ] at hown
      clear hJ
      obtain ⟨Av, cv, rfl⟩ := hown.shape
      have hrun := run_text (P := Try.prog) wr 44 9 5 bytely hown
      have HK := Lib.hid hkp
      clear hkp hown
      go_wp2_with fail
      go_ret
      rw [HJ.out]
      exact ⟨rfl, HK.out⟩
theorem join_nosep (xs : List (List UInt8)) : Lib.join xs [] = xs.flatten := by
  cases xs with
  | nil => rfl
  | cons x r =>
    rw [Lib.join_cons, List.flatten_cons]
    congr 1
    induction r with
    | nil => rfl
    | cons y r ih => simp [Lib.joinTail] at ih ⊢
theorem c_join (l : List ByteArray) (A : Option Addr) (c base : Nat) (w : World) (S : Nat → Prop) (hl : Own Rp.str w S base 9 (.slice A l.length c) l) (hn : l.length ≤ 1048576) (hs : (joinB l).size ≤ 1048576) :
    Calls Try.prog 22 #[.slice A l.length c] w fun e w' => e = .returned (.string (joinB l)) ∧ Kp No w w' := by
  have HL := Lib.hid hl
  clear hl
  go_enter Try.func22, Try.ntmps22
  go_wp2_with fail
  have hjoin : ∀ x : List (List UInt8), (⟨(Lib.join x (ByteArray.mk #[]).data.toList).toArray⟩ : ByteArray) = bs x.flatten := fun x => by
    rw [show (ByteArray.mk #[]).data.toList = [] from rfl, join_nosep]; rfl
  by_cases h0 : l = []
  · subst h0
    refine (sh_strings_Join_none A c _ w).mono ?_
    rintro e w' ⟨rfl, rfl⟩
    go_wp2_with fail
    go_ret
    exact ⟨rfl, Kp.refl _ _⟩
  · obtain ⟨x0, hx0⟩ : ∃ x, l[0]? = some x := ⟨_, List.getElem?_eq_getElem (List.length_pos_iff.2 h0)⟩
    obtain ⟨g, rfl, hgb, hgl, _⟩ := Own.cellBy Rp.str_by HL.out hx0
    have hcap : l.length ≤ c := by
      obtain ⟨_, _, he, h1, _⟩ := HL.out.read (S := fun _ => True) (fun _ _ => trivial)
      simp only [List.cons.injEq, Value.slice.injEq, and_true, true_and] at he; omega
    refine (sh_strings_Join g 0 c l _ w ?_ hgl (by omega) hcap ?_).mono ?_
    · intro j x hx
      obtain ⟨g', he, _, _, hc, _⟩ := Own.cellBy Rp.str_by HL.out hx
      injection he with he
      injection he with he
      subst he
      rw [Nat.zero_add]; exact hc
    · have := congrArg ByteArray.size (hjoin (l.map (·.data.toList)))
      rw [show (⟨(Lib.join (l.map (·.data.toList)) (ByteArray.mk #[]).data.toList).toArray⟩ : ByteArray).size = (Lib.join (l.map (·.data.toList)) (ByteArray.mk #[]).data.toList).length from rfl] at this
      rw [this]
      have h2 : (bs (l.map (·.data.toList)).flatten).size = (joinB l).size := rfl
      omega
    · rintro e w' ⟨rfl, hb⟩
      rw [hjoin]
      have hk : Kp No w w' := Kp.ofBelow hb (Nat.le_refl _)
      go_wp2_with fail
      go_ret
      exact ⟨rfl, hk⟩
end Go.Proofs.Ytkigojlfbjagoaa
