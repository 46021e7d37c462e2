/-
  Put together: Sum1, ShtM.
-/
import Derived.Test.YtamfgmlhopjppaaS4
import Derived.Test.YtamfgmlhopjppaaGB
namespace Go.Proofs.Ytamfgmlhopjppaa
section
open Go.RowKit Go.ChangeShapes Go.WideShapes Go.ChangeAt

/-- the digest of a text, as a text -/
def shaB (s : ByteArray) : ByteArray := bs (Go.Proofs.Ytamfgmlhopjppaa.sha s.data.toList)
theorem shaB_size (s : ByteArray) : (shaB s).size = 32 := by unfold shaB; rw [bs_size, sha_length]
theorem t_sum_at (l : List ByteArray) (g : Nat) (w : World) {cs : Array Value} {e : TypeId} {fr : Nat × Nat} (hg : w.heap[g]? = some (.cells cs e fr)) (hcs : cs.toList = l.map Value.string) (hn : l.length ≤ 1048576) (hs : (l.map (·.data.toList)).flatten.length ≤ 1048576) (hm : ∀ s ∈ l, s.size ≤ maxLen) :
    Calls Try.prog 64 #[.slice (some ⟨g, 0, none⟩) l.length l.length] w fun e w' => e = .returned (.string (bs (Go.Proofs.Ytamfgmlhopjppaa.sha (l.map (·.data.toList)).flatten))) ∧ Kp No w w' := by
  have hlt : g < w.heap.size := (Array.getElem?_eq_some_iff.1 hg).1
  exact t_sum l _ _ w (· = g) (Rp.of_block1 rfl Value.string hg rfl hcs (Nat.le_refl _) (by simp [maxLen]; omega) (fun a ha => ⟨rfl, hm a ha⟩)) (fun k hk => by rw [hk]; exact hlt) hn hs
/-- one text alone -/
theorem t_sum1 (s : ByteArray) (w : World) {g : Nat} {e : TypeId} {fr : Nat × Nat} (hg : w.heap[g]? = some (.cells #[.string s] e fr)) (hs : s.size ≤ 1048576) :
    Calls Try.prog 64 #[.slice (some ⟨g, 0, none⟩) 1 1] w fun e w' => e = .returned (.string (shaB s)) ∧ Kp No w w' := by
  have h := t_sum_at [s] g w hg rfl (by simp) (by simp; exact hs) (by intro x hx; simp only [List.mem_cons, List.not_mem_nil, or_false] at hx; subst hx; simp [maxLen]; omega)
  rw [show ([s].map (·.data.toList)).flatten = s.data.toList by simp] at h
  exact h
end

section
open Go.RowKit Go.ChangeShapes Go.WideShapes Go.ChangeAt

/-- the digests of a text's chunks -/
def hashesB (s : ByteArray) : List ByteArray := (cutsB s).map shaB
theorem hashesB_length (s : ByteArray) : (hashesB s).length = (s.size + 63) / 64 := by unfold hashesB; rw [List.length_map, cutsB_length]
theorem hashesB_size {s x : ByteArray} (h : x ∈ hashesB s) : x.size = 32 := by
  obtain ⟨y, _, rfl⟩ := List.mem_map.1 h
  exact shaB_size y
end
end Go.Proofs.Ytamfgmlhopjppaa
