/-
  Join: the program's and the reference's.
-/
import Derived.Test.YtejmbbnndagejaaC1
import Derived.Test.YtejmbbnndagejaaBy
import Derived.Test.YtejmbbnndagejaaShelf
namespace Go.Proofs.Ytejmbbnndagejaa
open Go.RowKit Go.ChangeShapes Go.WideShapes Go.ChangeAt

theorem r_join (l : List ByteArray) (A : Option Addr) (c : Nat) (w : World) (S : Nat → Prop) (hl : Rp.str.slice.R w S [.slice A l.length c] l) (hn : l.length ≤ 1048576) (hs : (joinB l).size ≤ 1048576) :
    Calls Try.prog 47 #[.slice A l.length c] w fun e w' => e = .returned (.string (joinB l)) ∧ Kp No w w' := by
  have HL := Lib.hid hl
  clear hl
  go_enter Try.func47, Try.ntmps47
  go_wp2_with fail
  go_loopw [3, 4] (fun ov iv wr => ∃ k : Nat, k ≤ l.length ∧ iv = .int .i64 k ∧ Own Rp.byte wr No w.heap.size 5 ov ((l.take k).map (·.data.toList)).flatten ∧ Kp No w wr) (fun _ iv _ => l.length - (intOf iv).toNat)
  case atStart => exact ⟨0, Nat.zero_le _, rfl, Own.lit (heap_alloc_new w _) (Nat.le_refl _), (Kp.refl _ _).alloc _⟩
  case round =>
    obtain ⟨k, hk, rfl, hown, hkp⟩ := hrel
    by_cases hlt : k < l.length
    · obtain ⟨Av, cv, rfl⟩ := hown.shape
      obtain ⟨x, hx⟩ : ∃ x, l[k]? = some x := ⟨_, List.getElem?_eq_getElem hlt⟩
      have hl3 := (Rp.slice _).keptNo HL.out hkp
      obtain ⟨ad, rfl, _, hcell, hxm⟩ := Rp.at_str hl3 hx
      have hstep : ((l.take (k + 1)).map (·.data.toList)).flatten = ((l.take k).map (·.data.toList)).flatten ++ x.data.toList := by
        obtain ⟨h, rfl⟩ := List.getElem?_eq_some_iff.1 hx
        rw [List.take_succ_eq_append_getElem h, List.map_append, List.flatten_append]; simp
      have hle : ((l.take (k + 1)).map (·.data.toList)).flatten.length ≤ (joinB l).size := by
        unfold joinB
        rw [bs_size]
        conv => rhs; rw [← List.take_append_drop (k + 1) l, List.map_append, List.flatten_append, List.length_append]
        omega
      rw [hstep, List.length_append, data_length] at hle
      have HS := Lib.hid hstep
      have HO := Lib.hid hown
      have HK := Lib.hid hkp
      clear hstep hown hkp hl3 hx
      generalize ((l.take k).map (·.data.toList)).flatten = D at *
      go_wp2_with (at_builtin; refine wpList_append_text rfl _ (.tmp 12) (.tmp 16) 51 9 rfl w.heap.size 5 bytely No (.slice Av D.length cv) D rfl HO.out x rfl ?d1 ?d2 ?_)
      case d1 => omega
      case d2 => have := HK.out.size; omega
      intro v' w3 hown hgr
      have hkr : Kp (fun k => (Value.slice Av D.length cv).ownBlock = some k) wr w3 := (Kp.refl _ _).grown hgr (fun g hg _ => hg)
      have HO3 := Lib.hid hown
      have HK3 := Lib.hid (HK.out.trans hkr (fun i hi hv => absurd (HO.out.lt i hv).1 (by omega)))
      clear hown hgr hkr
      go_wp2_with fail
      go_roundw
      case rel => exact ⟨k + 1, by omega, by go_num, by rw [HS.out]; exact HO3.out, HK3.out⟩
      case measure => simp [intOf]; omega
    · obtain rfl : k = l.length := by omega
      rw [List.take_length] at hown
      obtain ⟨J, hJ⟩ : ∃ J, (l.map (·.data.toList)).flatten = J := ⟨_, rfl⟩
      have HJ : Hid (joinB l = bs J) := Lib.hid (by unfold joinB; rw [hJ])
      rw [hJ] at hown
      clear hJ
      obtain ⟨Av, cv, rfl⟩ := hown.shape
      have hrun := run_text (P := Try.prog) wr 51 9 5 bytely hown
      have HK := Lib.hid hkp
      clear hkp hown
      go_wp2_with fail
      go_ret
      rw [HJ.out]
      exact ⟨rfl, HK.out⟩
theorem join_nosep (xs : List (List UInt8)) : Lib.join xs [] = xs.flatten := by
  cases xs with
  | nil => rfl
  | cons x r =>
    rw [Lib.join_cons, List.flatten_cons]
    congr 1
    induction r with
    | nil => rfl
    | cons y r ih => simp [Lib.joinTail] at ih ⊢
theorem c_join (l : List ByteArray) (A : Option Addr) (c base : Nat) (w : World) (S : Nat → Prop) (hl : Own Rp.str w S base 9 (.slice A l.length c) l) (hn : l.length ≤ 1048576) (hs : (joinB l).size ≤ 1048576) :
    Calls Try.prog 46 #[.slice A l.length c] w fun e w' => e = .returned (.string (joinB l)) ∧ Kp No w w' := by
  have HL := Lib.hid hl
  clear hl
  go_enter Try.func46, Try.ntmps46
  go_wp2_with fail
  have hjoin : ∀ x : List (List UInt8), (⟨(Lib.join x (ByteArray.mk #[]).data.toList).toArray⟩ : ByteArray) = bs x.flatten := fun x => by
    rw [show (ByteArray.mk #[]).data.toList = [] from rfl, join_nosep]; rfl
  by_cases h0 : l = []
  · subst h0
    refine (sh_strings_Join_none A c _ w).mono ?_
    rintro e w' ⟨rfl, rfl⟩
    go_wp2_with fail
    go_ret
    exact ⟨rfl, Kp.refl _ _⟩
  · obtain ⟨x0, hx0⟩ : ∃ x, l[0]? = some x := ⟨_, List.getElem?_eq_getElem (List.length_pos_iff.2 h0)⟩
    obtain ⟨g, rfl, hgb, hgl, _⟩ := Own.cellBy Rp.str_by HL.out hx0
    have hcap : l.length ≤ c := by
      obtain ⟨_, _, he, h1, _⟩ := HL.out.read (S := fun _ => True) (fun _ _ => trivial)
      simp only [List.cons.injEq, Value.slice.injEq, and_true, true_and] at he; omega
    refine (sh_strings_Join g 0 c l _ w ?_ hgl (by omega) hcap ?_).mono ?_
    · intro j x hx
      obtain ⟨g', he, _, _, hc, _⟩ := Own.cellBy Rp.str_by HL.out hx
      injection he with he
      injection he with he
      subst he
      rw [Nat.zero_add]; exact hc
    · have := congrArg ByteArray.size (hjoin (l.map (·.data.toList)))
      rw [show (⟨(Lib.join (l.map (·.data.toList)) (ByteArray.mk #[]).data.toList).toArray⟩ : ByteArray).size = (Lib.join (l.map (·.data.toList)) (ByteArray.mk #[]).data.toList).length from rfl] at this
      rw [this]
      have h2 : (bs (l.map (·.data.toList)).flatten).size = (joinB l).size := rfl
      omega
    · rintro e w' ⟨rfl, hb⟩
      rw [hjoin]
      have hk : Kp No w w' := Kp.ofBelow hb (Nat.le_refl _)
      go_wp2_with fail
      go_ret
      exact ⟨rfl, hk⟩
end Go.Proofs.Ytejmbbnndagejaa
