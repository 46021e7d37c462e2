/-
  (*Ledger).Names.
-/
import Derived.Test.YtbncblnchcmgbaaLedP
import Derived.Test.YtbncblnchcmgbaaLedM
import Derived.Test.YtbncblnchcmgbaaSortL
namespace Go.Proofs.Ytbncblnchcmgbaa
open Go.RowKit Go.ChangeShapes Go.WideShapes Go.ChangeAt

/-- what is live, rising -/
def namesL (L : LV) : List ByteArray := sortedN (L.fold.live.map (·.1))
/-- names that may be -/
theorem live_take : ∀ (l : List OpL) (f : FV), (∀ p ∈ f.live, p.1.size ≤ 16) → (∀ o ∈ l, okP o) → ∀ p ∈ (f.take l).live, p.1.size ≤ 16
  | [], f, h, _ => h
  | o :: l, f, h, ho => by
    refine live_take l (f.take1 o) ?_ (fun x hx => ho x (List.mem_cons_of_mem _ hx))
    intro p hp
    have h1 := ho o List.mem_cons_self
    unfold FV.take1 at hp
    split at hp
    · exact h p hp
    · simp only at hp
      split at hp
      · rename_i hk
        rcases mem_mput _ _ _ _ hp with hp | hp
        · rw [hp]
          rcases h1.2 with ⟨_, h2, _⟩ | ⟨h2, _⟩ | ⟨h2, _⟩
          · exact h2.2.2.2.2.2
          · omega
          · omega
        · exact h p (mem_mdel _ _ _ hp)
      · exact h p (mem_mdel _ _ _ hp)
theorem OkL.names {B : Nat} {L : LV} (h : OkL B L) : (∀ p ∈ L.fold.live, p.1.size ≤ 16) ∧ L.fold.live.length ≤ 80 :=
  ⟨live_take L.ops FV.fresh (fun p hp => by cases hp) (fun _ ho => h.okOf ho), Nat.le_trans h.foldOk.len h.len⟩
theorem c_keys_Sheet (m : Nat) (w : World) : Calls Try.prog 67 #[.map (some m)] w fun e w' => e = .returned (.func (.func 86) #[] #[.pointer (some ⟨w.heap.size, 0, none⟩)]) ∧ w' = w.alloc (.cells #[.map (some m)] 100) :=
  callsIn_wide.1 (sh_keys_Sheet (some m) w)
theorem c_sorted_Sheet (m : Nat) (l : List (ByteArray × Value)) (w : World) (hM : MapOf w m Value.string l) (hs : ∀ p ∈ l, p.1.size ≤ maxLen) (hn : l.length ≤ 1000000) :
    Calls Try.prog 60 #[.func (.func 86) #[] #[.pointer (some ⟨w.heap.size, 0, none⟩)]] (w.alloc (.cells #[.map (some m)] 100)) fun e w' =>
      ∃ A c, e = .returned (.slice A (sortedN (l.map (·.1))).length c) ∧ Own Rp.str w' No (w.heap.size + 1) 9 (.slice A (sortedN (l.map (·.1))).length c) (sortedN (l.map (·.1))) ∧ Kp No w w' := by
  obtain ⟨D0, h1, h2, h3⟩ := hM.owns (P := Try.prog) 9 Try.underlying9 hs (by unfold maxLen; omega)
  refine (callsIn_wide.1 (sh_sorted_Sheet m l.length D0 _ w h1 (by rw [h3]; unfold maxLen; omega) (by rw [h3]; omega))).mono ?_
  rintro e w' ⟨v, ss, rfl, hp, hrow, _, hb⟩
  have hown := own_of_sorted (l := l.map (·.1)) hrow (by rw [List.map_map]; exact hp.trans h2) (fun s hs' => by obtain ⟨p, hp, rfl⟩ := List.mem_map.1 hs'; exact hs p hp)
  have e1 : (w.alloc (.cells #[.map (some m)] 100)).heap.size = w.heap.size + 1 := by simp
  rw [e1] at hown
  obtain ⟨A, c, rfl⟩ := hown.shape
  exact ⟨A, c, rfl, hown, ((Kp.refl No w).alloc _).transNo (Kp.ofBelow hb (Nat.le_refl _))⟩
set_option maxRecDepth 100000 in
theorem a_names (B l : Nat) (L : LV) (F : Nat → Prop) (w : World) (h : LAt w l L F) (hok : OkL B L) :
    Calls Try.prog 37 #[.pointer (some ⟨l, 0, none⟩)] w fun e w' => ∃ A c, e = .returned (.slice A (namesL L).length c) ∧ Own Rp.str w' No w.heap.size 9 (.slice A (namesL L).length c) (namesL L) ∧ Kp No w w' := by
  obtain ⟨hn1, hn2⟩ := hok.names
  obtain ⟨b1, b2, ov, lv, S, hin, _⟩ := h
  obtain ⟨lm, hm, hkey, _⟩ := hin.fat.live
  have k := Blk.cell hin.fat.blk (i := 0) rfl
  have hlen : lm.length = L.fold.live.length := by have := congrArg List.length hkey; simpa using this
  have hks := c_keys_Sheet b1 w
  have hso := c_sorted_Sheet b1 lm w hm (fun p hp => by
    have h1 : p.1 ∈ L.fold.live.map (·.1) := by rw [← hkey]; exact List.mem_map.2 ⟨p, hp, rfl⟩
    obtain ⟨q, hq, he⟩ := List.mem_map.1 h1
    rw [← he]
    have := hn1 q hq
    unfold maxLen; omega) (by omega)
  rw [hkey] at hso
  unfold namesL
  obtain ⟨N, hN⟩ : ∃ N, sortedN (L.fold.live.map (·.1)) = N := ⟨_, rfl⟩
  rw [hN] at hso ⊢
  have k' : w.cell? ⟨l, 0, none⟩ = some (.map (some b1)) := k
  clear hin hm hkey hn1 hn2 hok hlen hN k
  go_enter Try.func37, Try.ntmps37
  go_wp2_with fail
  refine hks.mono ?_
  rintro e w1 ⟨rfl, rfl⟩
  clear hks
  go_wp2_with fail
  refine hso.mono ?_
  rintro e w2 ⟨An, cn, rfl, hown, hk2⟩
  have HN := Lib.hid hown
  have HK2 := Lib.hid hk2
  clear hso hown hk2
  go_wp2_with fail
  go_ret
  exact ⟨An, cn, rfl, HN.out.mono (Nat.le_succ _) (fun _ x => x), HK2.out⟩
end Go.Proofs.Ytbncblnchcmgbaa
