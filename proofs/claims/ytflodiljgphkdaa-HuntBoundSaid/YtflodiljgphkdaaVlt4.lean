/-
  vault: List, Open of a drive without files, Held, and of a vault that is none.
-/
import Derived.Test.YtflodiljgphkdaaVlt3
import Derived.Test.YtflodiljgphkdaaDskQ
import Derived.Test.YtflodiljgphkdaaDisk10
namespace Go.Proofs.Ytflodiljgphkdaa
open Go.RowKit Go.ChangeShapes Go.WideShapes Go.ChangeAt

set_option maxRecDepth 100000 in
theorem v_list_nil (w : World) : Calls Try.prog 41 #[.pointer none] w fun e w' => e = .returned (.slice none 0 0) ∧ w' = w := by
  go_enter Try.func41, Try.ntmps41
  go_wp2_with fail
  go_ret
  exact ⟨rfl, rfl⟩
set_option maxRecDepth 100000 in
set_option maxHeartbeats 2000000 in
theorem v_list (v d : Nat) (X : VV) (F : Nat → Prop) (w : World) (hv : VAt w v d X F) (hsz : ∀ p ∈ X.kept, p.1.size ≤ 1048576) :
    Calls Try.prog 41 #[.pointer (some ⟨v, 0, none⟩)] w fun e w' => ∃ A c, e = .returned (.slice A (listV X).length c) ∧ Own Rp.str w' No w.heap.size 9 (.slice A (listV X).length c) (listV X) ∧ Kp No w w' := by
  obtain ⟨b, kp, lb, lk, F0, hv, hF⟩ := hv
  have c1 : w.cell? ⟨v, 1, none⟩ = some (.pointer (some ⟨d, 0, none⟩)) := Blk.cell hv.blk rfl
  have c3 : w.cell? ⟨v, 3, none⟩ = some (.map (some kp)) := Blk.cell hv.blk rfl
  have hdown := d_down d X.d F0 w hv.disk
  unfold listV
  cases hoff : X.d.off with
  | true =>
    rw [hoff] at hdown
    simp only [if_true]
    clear hv hF c3 hoff
    go_enter Try.func41, Try.ntmps41
    go_wp2_with fail
    refine hdown.mono ?_
    rintro e w1 ⟨rfl, rfl⟩
    clear hdown
    go_wp2_with fail
    go_ret
    exact ⟨none, 0, rfl, Own.nil _ _ _ _ _, Kp.refl _ _⟩
  | false =>
    rw [hoff] at hdown
    simp only [Bool.false_eq_true, if_false]
    have hkl := hv.klen
    have hlen : lk.length ≤ 2000000 := by have := hkl.length_eq; simp at this; have := hv.ok.many; omega
    have hss : sortedN (lk.map (·.1)) = X.kept.map (·.1) := sortedN_eq hkl hv.ok.kept.names
    have hks := c_keys_int kp w
    have hso := c_sorted_int kp lk w hv.keeps (fun p hp => by
      have h1 : p.1 ∈ X.kept.map (·.1) := hkl.mem_iff.1 (List.mem_map.2 ⟨p, hp, rfl⟩)
      obtain ⟨q, hq, he⟩ := List.mem_map.1 h1
      rw [← he]; have := hsz q hq; unfold maxLen; omega) hlen
    rw [hss] at hso
    obtain ⟨N, hN⟩ : ∃ N, X.kept.map (·.1) = N := ⟨_, rfl⟩
    rw [hN] at hso ⊢
    clear hv hF hoff hkl hlen hss hN hsz
    go_enter Try.func41, Try.ntmps41
    go_wp2_with fail
    refine hdown.mono ?_
    rintro e w1 ⟨rfl, rfl⟩
    clear hdown
    go_wp2_with fail
    refine hks.mono ?_
    rintro e w2 ⟨rfl, rfl⟩
    clear hks
    go_wp2_with fail
    refine hso.mono ?_
    rintro e w3 ⟨A, c, rfl, hown, hk3⟩
    have HO := Lib.hid hown
    have HK := Lib.hid hk3
    clear hso hown hk3
    go_wp2_with fail
    go_ret
    exact ⟨A, c, rfl, HO.out.mono (Nat.le_succ _) (fun _ h => h), HK.out⟩
set_option maxRecDepth 100000 in
theorem v_held_nil (h : ByteArray) (w : World) : Calls Try.prog 46 #[.pointer none, .string h] w fun e w' => e = .returned (.int .i64 0) ∧ w' = w := by
  go_enter Try.func46, Try.ntmps46
  go_wp2_with fail
  go_ret
  exact ⟨rfl, rfl⟩
set_option maxRecDepth 100000 in
theorem v_sweep_nil (w : World) : Calls Try.prog 44 #[.pointer none] w fun e w' => e = .returned (.tuple #[.int .i64 0, .int .i64 2]) ∧ w' = w := by
  go_enter Try.func44, Try.ntmps44
  go_wp2_with fail
  go_ret2
  exact ⟨rfl, rfl⟩
set_option maxRecDepth 100000 in
theorem v_put_nil (c : ByteArray) (w : World) : Calls Try.prog 36 #[.pointer none, .string c] w fun e w' => e = .returned (.tuple #[.string ⟨#[]⟩, .int .i64 2]) ∧ w' = w := by
  go_enter Try.func36, Try.ntmps36
  go_wp2_with fail
  go_ret2
  exact ⟨rfl, rfl⟩
set_option maxRecDepth 100000 in
theorem v_hold_nil (A : Option Addr) (n c : Nat) (w : World) : Calls Try.prog 43 #[.pointer none, .slice A n c] w fun e w' => e = .returned (.tuple #[]) ∧ w' = w := by
  go_enter Try.func43, Try.ntmps43
  go_wp2_with fail
  go_end0
  exact ⟨rfl, rfl⟩
set_option maxRecDepth 100000 in
theorem v_free_nil (A : Option Addr) (n c : Nat) (w : World) : Calls Try.prog 47 #[.pointer none, .slice A n c] w fun e w' => e = .returned (.tuple #[]) ∧ w' = w := by
  go_enter Try.func47, Try.ntmps47
  go_wp2_with fail
  go_end0
  exact ⟨rfl, rfl⟩
set_option maxRecDepth 100000 in
theorem v_missing_nil (A : Option Addr) (n c : Nat) (w : World) : Calls Try.prog 48 #[.pointer none, .slice A n c] w fun e w' => e = .returned (.slice none 0 0) ∧ w' = w := by
  go_enter Try.func48, Try.ntmps48
  go_wp2_with fail
  go_ret
  exact ⟨rfl, rfl⟩
set_option maxRecDepth 100000 in
theorem v_open_nil (q : Int) (w : World) : Calls Try.prog 34 #[.pointer none, .int .i64 q] w fun e w' => e = .returned (.tuple #[.pointer none, .int .i64 2]) ∧ w' = w := by
  go_enter Try.func34, Try.ntmps34
  go_wp2_with fail
  go_ret2
  exact ⟨rfl, rfl⟩
/-- the vault as it is opened -/
def openV (x : DV) (q : Int) : VV := ⟨x, q, [], []⟩
set_option maxRecDepth 100000 in
theorem v_open_bad (d : Nat) (q : Int) (hq : q < 0 ∨ 1048576 < q) (w : World) : Calls Try.prog 34 #[.pointer (some ⟨d, 0, none⟩), .int .i64 q] w fun e w' => e = .returned (.tuple #[.pointer none, .int .i64 1]) ∧ w' = w := by
  by_cases h0 : q < 0
  · clear hq
    go_enter Try.func34, Try.ntmps34
    go_wp2_with fail
    go_ret2
    exact ⟨rfl, rfl⟩
  · have h1 : 1048576 < q := by omega
    clear hq
    go_enter Try.func34, Try.ntmps34
    go_wp2_with fail
    go_ret2
    exact ⟨rfl, rfl⟩
set_option maxRecDepth 100000 in
set_option maxHeartbeats 2000000 in
theorem v_open (d : Nat) (x : DV) (F0 : Nat → Prop) (q : Int) (w : World) (hd : DiskAt w d x F0) (hf : x.files = []) (ho : x.off = false) (h0 : 0 ≤ q) (h1 : q ≤ 1048576) :
    Calls Try.prog 34 #[.pointer (some ⟨d, 0, none⟩), .int .i64 q] w fun e w' => ∃ v F, e = .returned (.tuple #[.pointer (some ⟨v, 0, none⟩), .int .i64 0]) ∧ VAt w' v d (openV x q) F ∧ Kp No w w' ∧ ∀ k, F k → F0 k ∨ w.heap.size ≤ k := by
  have HD := Lib.hid hd
  have hdown := d_down d x F0 w hd
  rw [ho] at hdown
  have hn : ∀ w2, Kp No w w2 → _ := fun w2 hk => d_names d x F0 ⟨#[98, 46]⟩ w2 (HD.out.keptNo hk) (by rw [hf]; simp)
  have hnm : namesD ⟨#[98, 46]⟩ x = [] := by unfold namesD; rw [ho, hf]; rfl
  rw [hnm] at hn
  have HN := Lib.hid hn
  have HO := Lib.hid ho
  have HH := Lib.hid (And.intro h0 h1)
  have hmm := @run_makeMap Try.prog
  clear hd hn hnm ho hf
  go_enter Try.func34, Try.ntmps34
  go_wp2_with fail
  refine hdown.mono ?_
  rintro e w1 ⟨rfl, rfl⟩
  clear hdown
  go_wp2_with fail
  obtain ⟨w2, hw2⟩ : ∃ w2, ((w1.alloc (.map #[] 0)).alloc (.map #[] 0)).alloc (.cells #[.map (some w1.heap.size), .pointer (some ⟨d, 0, none⟩), .int .i64 q, .map (some (w1.heap.size + 1))] 113) = w2 := ⟨_, rfl⟩
  rw [hw2]
  have e1 : (w1.alloc (.map #[] 0)).heap.size = w1.heap.size + 1 := by simp
  have e2 : ((w1.alloc (.map #[] 0)).alloc (.map #[] 0)).heap.size = w1.heap.size + 2 := by simp
  have m1 := MapOf.made (enc := Value.string) w1
  have m2 := MapOf.made (enc := Value.string) (w1.alloc (.map #[] 0))
  rw [e1] at m2
  have b3 := Blk.new ((w1.alloc (.map #[] 0)).alloc (.map #[] 0)) [.map (some w1.heap.size), .pointer (some ⟨d, 0, none⟩), .int .i64 q, .map (some (w1.heap.size + 1))] 113
  rw [e2, hw2] at b3
  have k2 : Kp No ((w1.alloc (.map #[] 0)).alloc (.map #[] 0)) w2 := by rw [← hw2]; exact (Kp.refl _ _).alloc _
  have k1 : Kp No (w1.alloc (.map #[] 0)) w2 := ((Kp.refl No (w1.alloc (.map #[] 0))).alloc _).trans' k2
  have k0 : Kp No w1 w2 := ((Kp.refl No w1).alloc _).trans' k1
  have hdlt := HD.out.lt
  have hvin : VIn w2 (w1.heap.size + 2) w1.heap.size d (w1.heap.size + 1) [] [] (openV x q) F0 :=
    ⟨b3, m1.kept k1 (fun x => x), m2.kept k2 (fun x => x), fun _ => rfl, fun _ => rfl, HD.out.keptNo k0, by omega, fun h => by have := hdlt _ h; omega, fun h => by have := hdlt _ h; omega, fun h => by have := hdlt _ h; omega,
      ⟨HD.out.ok, HH.out, List.Pairwise.nil, List.Pairwise.nil, (fun p hp => by cases hp), Nat.zero_le _⟩⟩
  have HV := Lib.hid hvin
  have K0 := Lib.hid k0
  clear hw2 e1 e2 m1 m2 b3 k2 k1 k0 hdlt hvin
  refine (HN.out w2 K0.out).mono ?_
  rintro e w3 ⟨A, c, rfl, _, hk3⟩
  have HK3 := Lib.hid hk3
  clear hk3
  go_wp2_with fail
  go_loopw [37] (fun iv wr => iv = .int .i64 0 ∧ wr = w3) (fun _ _ => 0)
  case atStart => exact ⟨rfl, rfl⟩
  case round =>
    obtain ⟨rfl, rfl⟩ := hrel
    go_wp2_with fail
    go_ret2
    refine ⟨_, _, rfl, ⟨_, _, _, _, _, HV.out.keptNo HK3.out, fun k => Iff.rfl⟩, K0.out.trans' HK3.out, ?_⟩
    rintro k (rfl | rfl | rfl | hk)
    · right; omega
    · right; omega
    · right; omega
    · exact .inl hk
end Go.Proofs.Ytflodiljgphkdaa
