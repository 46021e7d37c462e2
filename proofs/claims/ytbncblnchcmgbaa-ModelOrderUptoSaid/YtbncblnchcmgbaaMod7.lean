/-
  (*Model).Names; what a model that is none tells; model.New, model.denied.
-/
import Derived.Test.YtbncblnchcmgbaaMod6
import Derived.Test.YtbncblnchcmgbaaSortL
namespace Go.Proofs.Ytbncblnchcmgbaa
open Go.RowKit Go.ChangeShapes Go.WideShapes Go.ChangeAt

theorem m_keys_Op (m : Nat) (w : World) : Calls Try.prog 61 #[.map (some m)] w fun e w' => e = .returned (.func (.func 80) #[] #[.pointer (some ⟨w.heap.size, 0, none⟩)]) ∧ w' = w.alloc (.cells #[.map (some m)] 129) :=
  callsIn_wide.1 (sh_keys_Op (some m) w)
theorem m_sorted_Op (m : Nat) (l : List (ByteArray × Value)) (w : World) (hM : MapOf w m Value.string l) (hs : ∀ p ∈ l, p.1.size ≤ maxLen) (hn : l.length ≤ 1000000) :
    Calls Try.prog 60 #[.func (.func 80) #[] #[.pointer (some ⟨w.heap.size, 0, none⟩)]] (w.alloc (.cells #[.map (some m)] 129)) fun e w' =>
      ∃ A c, e = .returned (.slice A (sortedN (l.map (·.1))).length c) ∧ Own Rp.str w' No (w.heap.size + 1) 9 (.slice A (sortedN (l.map (·.1))).length c) (sortedN (l.map (·.1))) ∧ Kp No w w' := by
  obtain ⟨D0, h1, h2, h3⟩ := hM.owns (P := Try.prog) 9 Try.underlying9 hs (by unfold maxLen; omega)
  refine (callsIn_wide.1 (sh_sorted_Op m l.length D0 _ w h1 (by rw [h3]; unfold maxLen; omega) (by rw [h3]; omega))).mono ?_
  rintro e w' ⟨v, ss, rfl, hp, hrow, _, hb⟩
  have hown := own_of_sorted (l := l.map (·.1)) hrow (by rw [List.map_map]; exact hp.trans h2) (fun s hs' => by obtain ⟨p, hp, rfl⟩ := List.mem_map.1 hs'; exact hs p hp)
  have e1 : (w.alloc (.cells #[.map (some m)] 129)).heap.size = w.heap.size + 1 := by simp
  rw [e1] at hown
  obtain ⟨A, c, rfl⟩ := hown.shape
  exact ⟨A, c, rfl, hown, ((Kp.refl No w).alloc _).transNo (Kp.ofBelow hb (Nat.le_refl _))⟩
theorem mput_len {κ α : Type} [DecidableEq κ] (k : κ) (v : α) : ∀ l : List (κ × α), (mput k v l).length ≤ l.length + 1
  | [] => by simp [mput]
  | (k', v') :: l => by
    unfold mput
    split
    · simp
    · have := mput_len k v l; simp only [List.length_cons]; omega
theorem mdel_len {κ α : Type} [DecidableEq κ] (k : κ) : ∀ l : List (κ × α), (mdel k l).length ≤ l.length
  | [] => by simp [mdel]
  | (k', v') :: l => by
    unfold mdel
    split
    · simp
    · have := mdel_len k l; simp only [List.length_cons]; omega
theorem liveG_mem {m : List (ByteArray × OpL)} {o : OpL} {k : ByteArray} (h : k ∈ (liveG m o).map (·.1)) : k = o.name ∨ k ∈ m.map (·.1) := by
  unfold liveG at h
  split at h
  · exact (mem_keys_mput _ _ _ _).1 h
  · split at h
    · exact .inr (mem_keys_mdel h)
    · exact .inr h
theorem live_fold : ∀ (L : List OpL) (m : List (ByteArray × OpL)), (∀ k ∈ (L.foldl liveG m).map (·.1), k ∈ m.map (·.1) ∨ ∃ o ∈ L, k = o.name) ∧ (L.foldl liveG m).length ≤ m.length + L.length
  | [], m => ⟨fun k hk => .inl hk, by simp⟩
  | o :: L, m => by
    obtain ⟨h1, h2⟩ := live_fold L (liveG m o)
    constructor
    · intro k hk
      rcases h1 k hk with h | ⟨o2, h, e⟩
      · rcases liveG_mem h with h | h
        · exact .inr ⟨o, List.mem_cons_self, h⟩
        · exact .inl h
      · exact .inr ⟨o2, List.mem_cons_of_mem _ h, e⟩
    · have : (liveG m o).length ≤ m.length + 1 := by
        unfold liveG
        split
        · exact mput_len _ _ _
        · split
          · have := mdel_len o.name m; omega
          · omega
      simp only [List.foldl_cons, List.length_cons]
      omega
theorem pathL_mem {ls : List ((Int × Int) × LineL)} : ∀ {f : Nat} {p : Int × Int} {r : List OpL}, pathL ls f p = some r → (∀ o ∈ r, ∃ q l, mget q ls = some l ∧ l.op = o) ∧ r.length ≤ f
  | 0, p, r, h => by
    unfold pathL at h
    split at h
    · injection h with h; subst h; exact ⟨fun o ho => (by simp at ho), Nat.le_refl _⟩
    · cases h
  | f + 1, p, r, h => by
    unfold pathL at h
    split at h
    · injection h with h; subst h; exact ⟨fun o ho => (by simp at ho), Nat.zero_le _⟩
    · split at h
      · cases h
      · rename_i l hl
        obtain ⟨r', hr, rfl⟩ := Option.map_eq_some_iff.1 h
        obtain ⟨h1, h2⟩ := pathL_mem hr
        refine ⟨fun o ho => ?_, by simp only [List.length_cons]; omega⟩
        rcases List.mem_cons.1 ho with rfl | ho
        · exact ⟨_, l, hl, rfl⟩
        · exact h1 o ho
theorem pathD_mem {M : MV} (hok : OkM M) (p : Int × Int) : (∀ o ∈ pathD M p, ∃ q l, mget q M.lines = some l ∧ l.op = o) ∧ (pathD M p).length ≤ 1000000 := by
  unfold pathD pathM
  cases h : pathL M.lines p.1.toNat p with
  | none => exact ⟨fun o ho => (by simp at ho), by simp⟩
  | some r =>
    obtain ⟨h1, h2⟩ := pathL_mem h
    refine ⟨fun o ho => h1 o (by simpa using ho), ?_⟩
    simp only [Option.map_some, Option.getD_some, List.length_reverse]
    cases r with
    | nil => simp
    | cons o r =>
      have hp : p ≠ (0, 0) := fun e => by rw [e, pathL_zero] at h; cases h
      cases hg : mget p M.lines with
      | none => rw [pathL_none hp hg] at h; cases h
      | some l => have := hok.low p l hg; omega
def namesM (M : MV) (p : Int × Int) : List ByteArray := sortedN ((liveL1 (pathD M p)).map (·.1))
set_option maxRecDepth 100000 in
set_option maxHeartbeats 4000000 in
theorem m_names (p : Int × Int) (m : Nat) (M : MV) (F : Nat → Prop) (w : World) (hM : MAt w m M F) (hok : OkM M) :
    Calls Try.prog 29 #[.pointer (some ⟨m, 0, none⟩), spotV p] w fun e w' => ∃ A c, e = .returned (.tuple #[.slice A (namesM M p).length c, .bool (pathM M p).isSome]) ∧ Own Rp.str w' No w.heap.size 9 (.slice A (namesM M p).length c) (namesM M p) ∧ Kp No w w' := by
  have hnum : ∀ o ∈ pathD M p, o.name.size ≤ maxLen := fun o ho => by
    obtain ⟨q, l, hq, rfl⟩ := (pathD_mem hok p).1 o ho
    obtain ⟨_, _, _, hin, _⟩ := hM
    exact (hin.nums hq).1.2.2.2.2.2.2.1
  have hlen := (pathD_mem hok p).2
  obtain ⟨hf1, hf2⟩ := live_fold (pathD M p) []
  obtain ⟨wa, hwa⟩ : ∃ v, w.alloc (.cells #[.int .i64 p.1, .int .i64 p.2] 54) = v := ⟨_, rfl⟩
  have hka : Kp No w wa := by rw [← hwa]; exact (Kp.refl _ _).alloc _
  obtain ⟨at_, hat⟩ : ∃ v, w.heap.size = v := ⟨_, rfl⟩
  have hba : Blk wa at_ 54 [.int .i64 p.1, .int .i64 p.2] := by rw [← hwa, ← hat]; exact Blk.new w _ _
  have s0 : wa.cell? ⟨at_, 0, none⟩ = some _ := Blk.cell hba rfl
  have s1 : wa.cell? ⟨at_, 1, none⟩ = some _ := Blk.cell hba rfl
  have hlv := m_live p m M F wa (hM.keptNo hka) hok
  obtain ⟨B, hB⟩ : ∃ B, (pathM M p).isSome = B := ⟨_, rfl⟩
  obtain ⟨V, hV⟩ : ∃ V, liveL1 (pathD M p) = V := ⟨_, rfl⟩
  have hsz : ∀ k ∈ V.map (·.1), k.size ≤ maxLen := fun k hk => by
    rw [← hV] at hk
    rcases hf1 k hk with h | ⟨o, ho, rfl⟩
    · simp at h
    · exact hnum o ho
  have hvl : V.length ≤ 1000000 := by
    rw [← hV]
    have h2 : (liveL1 (pathD M p)).length ≤ ([] : List (ByteArray × OpL)).length + (pathD M p).length := hf2
    simp only [List.length_nil] at h2
    omega
  unfold namesM
  rw [hV] at hlv ⊢
  rw [hB] at hlv ⊢
  obtain ⟨N, hN⟩ : ∃ N, sortedN (V.map (·.1)) = N := ⟨_, rfl⟩
  rw [hN]
  unfold spotV at hlv ⊢
  have HLV := Lib.hid hlv
  have HKA := Lib.hid hka
  have HSZ := Lib.hid hsz
  have HVL := Lib.hid hvl
  have HNE := Lib.hid hN
  clear hlv hka hba hM hok hnum hlen hf1 hf2 hsz hvl hV hB hN
  go_enter Try.func29, Try.ntmps29
  go_wp2_with fail
  clear hwa s0 s1 hat
  refine HLV.out.mono ?_
  rintro e w1 ⟨b, rfl, hbw, hmp, hk1⟩
  obtain ⟨lv, hm, hkey, _⟩ := hmp
  have HK1 := Lib.hid (HKA.out.trans' hk1)
  have hks := m_keys_Op b w1
  have hll : lv.length ≤ 1000000 := by
    have h1 := congrArg List.length hkey
    simp only [List.length_map] at h1
    have := HVL.out
    omega
  have hso := m_sorted_Op b lv w1 hm (fun q hq => HSZ.out q.1 (by rw [← hkey]; exact List.mem_map.2 ⟨q, hq, rfl⟩)) hll
  rw [hkey, HNE.out] at hso
  have HKS := Lib.hid hks
  have HSO := Lib.hid hso
  clear hbw hm hkey hk1 hks hll hso HLV HKA
  go_wp2_with fail
  refine HKS.out.mono ?_
  rintro e w2 ⟨rfl, rfl⟩
  go_wp2_with fail
  refine HSO.out.mono ?_
  rintro e w3 ⟨A, c, rfl, hown, hk3⟩
  have HOW := Lib.hid hown
  have HK3 := Lib.hid hk3
  clear hown hk3
  go_wp2_with fail
  exact bodyPost_ret (results_tmp2 rfl _ _ _) rfl ⟨A, c, rfl, HOW.out.mono (by have := HK1.out.size; omega) (fun _ x => x), HK1.out.trans' HK3.out⟩
end Go.Proofs.Ytbncblnchcmgbaa
