/-
  The digest of parts that stand in a block; awake of layer 3.
-/
import Derived.Test.YtejmbbnndagejaaS4
import Derived.Test.YtejmbbnndagejaaS5
import Derived.Test.YtejmbbnndagejaaAbc
namespace Go.Proofs.Ytejmbbnndagejaa
open Go.RowKit Go.ChangeShapes Go.WideShapes Go.ChangeAt

/-- the digest of a text, as a text -/
def shaB (s : ByteArray) : ByteArray := bs (Go.Proofs.Ytejmbbnndagejaa.sha s.data.toList)
theorem shaB_size (s : ByteArray) : (shaB s).size = 32 := by unfold shaB; rw [bs_size, sha_length]
theorem t_sum_at (l : List ByteArray) (g : Nat) (w : World) {cs : Array Value} {e : TypeId} {fr : Nat × Nat} (hg : w.heap[g]? = some (.cells cs e fr)) (hcs : cs.toList = l.map Value.string) (hn : l.length ≤ 1048576) (hs : (l.map (·.data.toList)).flatten.length ≤ 1048576) (hm : ∀ s ∈ l, s.size ≤ maxLen) :
    Calls Try.prog 15 #[.slice (some ⟨g, 0, none⟩) l.length l.length] w fun e w' => e = .returned (.string (bs (Go.Proofs.Ytejmbbnndagejaa.sha (l.map (·.data.toList)).flatten))) ∧ Kp No w w' := by
  have hlt : g < w.heap.size := (Array.getElem?_eq_some_iff.1 hg).1
  exact t_sum l _ _ w (· = g) (Rp.of_block1 rfl Value.string hg rfl hcs (Nat.le_refl _) (by simp [maxLen]; omega) (fun a ha => ⟨rfl, hm a ha⟩)) (fun k hk => by rw [hk]; exact hlt) hn hs
/-- one text alone -/
theorem t_sum1 (s : ByteArray) (w : World) {g : Nat} {e : TypeId} {fr : Nat × Nat} (hg : w.heap[g]? = some (.cells #[.string s] e fr)) (hs : s.size ≤ 1048576) :
    Calls Try.prog 15 #[.slice (some ⟨g, 0, none⟩) 1 1] w fun e w' => e = .returned (.string (shaB s)) ∧ Kp No w w' := by
  have h := t_sum_at [s] g w hg rfl (by simp) (by simp; exact hs) (by intro x hx; simp only [List.mem_cons, List.not_mem_nil, or_false] at hx; subst hx; simp [maxLen]; omega)
  rw [show ([s].map (·.data.toList)).flatten = s.data.toList by simp] at h
  exact h

set_option maxRecDepth 100000 in
set_option maxHeartbeats 1000000 in
theorem awake03 (w : World) : Calls Try.prog 14 #[] w fun e w' => e = .returned (.bool true) ∧ Kp No w w' := by
  have hab : ([ (⟨#[97]⟩ : ByteArray), ⟨#[98, 99]⟩].map (·.data.toList)).flatten = [97, 98, 99] := rfl
  have hs := t_sum_at [⟨#[97]⟩, ⟨#[98, 99]⟩] w.heap.size (w.alloc (.cells #[.string ⟨#[97]⟩, .string ⟨#[98, 99]⟩] 9)) (heap_alloc_new w _) rfl (by simp) (by rw [hab]; decide) (by intro x hx; simp only [List.mem_cons, List.not_mem_nil, or_false] at hx; rcases hx with rfl | rfl <;> decide)
  rw [hab, abc_sha] at hs
  have HS := Lib.hid hs
  clear hs hab
  go_enter Try.func14, Try.ntmps14
  go_wp2_with fail
  refine HS.out.mono ?_
  rintro e w2 ⟨rfl, hk2⟩
  have HK2 := Lib.hid hk2
  obtain ⟨D, hD⟩ : ∃ D, bs [186, 120, 22, 191, 143, 1, 207, 234, 65, 65, 64, 222, 93, 174, 34, 35, 176, 3, 97, 163, 150, 23, 122, 156, 180, 16, 255, 97, 242, 0, 21, 173] = D := ⟨_, rfl⟩
  have hN : bs (nameL D.data.toList) = ⟨#[98, 97, 55, 56, 49, 54, 98, 102, 56, 102, 48, 49, 99, 102, 101, 97, 52, 49, 52, 49, 52, 48, 100, 101, 53, 100, 97, 101, 50, 50, 50, 51, 98, 48, 48, 51, 54, 49, 97, 51, 57, 54, 49, 55, 55, 97, 57, 99, 98, 52, 49, 48, 102, 102, 54, 49, 102, 50, 48, 48, 49, 53, 97, 100]⟩ := by rw [← hD]; decide +kernel
  have hDs : D.size ≤ 1048576 := by rw [← hD, bs_size]; decide
  rw [hD]
  have HN := Lib.hid hN
  clear hk2 hN hD HS
  go_wp2_with fail
  refine (c_name D _ hDs).mono ?_
  rintro e w3 ⟨rfl, hk3⟩
  rw [HN.out]
  have HK3 := Lib.hid (((Kp.refl No w).alloc _).trans' (HK2.out.trans' hk3))
  clear hk3 HK2 HN
  go_wp2_with fail
  go_ret
  exact ⟨rfl, HK3.out⟩
end Go.Proofs.Ytejmbbnndagejaa
