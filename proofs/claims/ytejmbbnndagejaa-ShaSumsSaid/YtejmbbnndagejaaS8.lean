/-
  joined (layer 3): all parts as one text.
-/
import Derived.Test.YtejmbbnndagejaaBytes
import Derived.Test.YtejmbbnndagejaaReg
namespace Go.Proofs.Ytejmbbnndagejaa
open Go.RowKit Go.ChangeShapes Go.WideShapes Go.ChangeAt

def flatB (l : List ByteArray) : List UInt8 := (l.map (·.data.toList)).flatten
theorem flatB_step {l : List ByteArray} {k : Nat} {x : ByteArray} (hx : l[k]? = some x) : flatB (l.take (k + 1)) = flatB (l.take k) ++ x.data.toList := by
  obtain ⟨h, rfl⟩ := List.getElem?_eq_some_iff.1 hx
  unfold flatB
  rw [List.take_succ_eq_append_getElem h, List.map_append, List.flatten_append]; simp

/-- what it answers -/
def JoinedAns (l : List ByteArray) (e : Ending) : Prop := ∃ r ok, e = .returned (.tuple #[.string r, .bool ok]) ∧ (ok = true → r = bs (flatB l) ∧ l.length ≤ 101 ∧ (flatB l).length ≤ 4000)
set_option maxRecDepth 100000 in
set_option maxHeartbeats 1000000 in
theorem h_joined (l : List ByteArray) (A : Option Addr) (c : Nat) (w : World) (S : Nat → Prop) (hl : Rp.str.slice.R w S [.slice A l.length c] l) :
    Calls Try.prog 13 #[.slice A l.length c] w fun e w' => JoinedAns l e ∧ w = w' := by
  have hlen : l.length ≤ maxLen := by obtain ⟨_, _, _, h1, h2, _⟩ := hl; omega
  unfold maxLen at hlen
  go_enter Try.func13, Try.ntmps13
  go_wp2
  go_loop [4, 9] (fun sv iv => ∃ (k : Nat) (r : ByteArray), k ≤ l.length ∧ iv = .int .i64 (k : Int) ∧ sv = .string r ∧ Hid (r = bs (flatB (l.take k))) ∧ r.size ≤ 4000 ∧ k ≤ 101) (fun _ i => l.length - (intOf i).toNat)
  case atStart => exact ⟨0, _, Nat.zero_le _, rfl, rfl, Lib.hid rfl, by decide, by omega⟩
  case round =>
    obtain ⟨k, r, hk, rfl, rfl, HR, hr, hk1⟩ := hrel
    by_cases hlt : k < l.length
    · obtain ⟨x, hx⟩ : ∃ x, l[k]? = some x := ⟨_, List.getElem?_eq_getElem hlt⟩
      obtain ⟨ad, rfl, had, hv, hxs⟩ := Rp.at_str hl hx
      unfold maxLen at hxs
      have HST := Lib.hid (flatB_step hx)
      clear hl hx had
      by_cases h1 : 100 < k
      · go_wp2
        go_ret2
        exact ⟨⟨_, _, rfl, fun h => by cases h⟩, rfl⟩
      · by_cases h2 : 2000 < x.size
        · go_wp2
          go_ret2
          exact ⟨⟨_, _, rfl, fun h => by cases h⟩, rfl⟩
        · by_cases h3 : 2000 < r.size
          · go_wp2
            go_ret2
            exact ⟨⟨_, _, rfl, fun h => by cases h⟩, rfl⟩
          · have hn : ¬ 9223372036854775807 < r.size + x.size := by omega
            go_wp2
            go_round
            case rel => exact ⟨k + 1, r ++ x, by omega, by go_num, rfl, Lib.hid (by rw [HST.out, ← bs_append, bs_of, HR.out]), by rw [ByteArray.size_append]; omega, by omega⟩
            case measure => simp [intOf]; omega
    · obtain rfl : k = l.length := by omega
      have hfin : r = bs (flatB l) := by have h := HR.out; rw [List.take_length] at h; exact h
      have hsz : (flatB l).length ≤ 4000 := by rw [hfin, bs_size] at hr; exact hr
      have HF := Lib.hid hfin
      clear hl hfin HR
      go_wp2
      go_ret2
      exact ⟨⟨_, _, rfl, fun _ => ⟨HF.out, by omega, hsz⟩⟩, rfl⟩
end Go.Proofs.Ytejmbbnndagejaa
