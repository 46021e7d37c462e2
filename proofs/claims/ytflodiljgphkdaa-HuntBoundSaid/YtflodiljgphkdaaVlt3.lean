/-
  vault: Bytes, List, Open (of a drive without files).
-/
import Derived.Test.YtflodiljgphkdaaVlt2
import Derived.Test.YtflodiljgphkdaaSortI
import Derived.Test.YtflodiljgphkdaaRange
namespace Go.Proofs.Ytflodiljgphkdaa
open Go.RowKit Go.ChangeShapes Go.WideShapes Go.ChangeAt

/-- the sum of a map's numbers, in whatever order -/
theorem sum_perm {ν : Type} : ∀ {l : List (ByteArray × ν)} {m : List (ByteArray × Int)} (f : ν → Int), (l.map (·.1)).Nodup → (m.map (·.1)).Nodup → (∀ n, (mget n l).map f = mget n m) → (l.map fun p => f p.2).sum = sumV m
  | [], [], _, _, _, _ => rfl
  | [], q :: m, f, _, _, h => by
    have := h q.1
    unfold mget at this
    simp at this
  | p :: l, m, f, hl, hm, h => by
    rw [List.map_cons, List.nodup_cons] at hl
    have h1 : mget p.1 m = some (f p.2) := by rw [← h p.1]; unfold mget; simp
    have h2 := sum_perm (l := l) (m := mdel p.1 m) f hl.2 (nodup_mdel p.1 m hm) (fun n => by
      rw [mget_del p.1 n m hm, ← h n]
      by_cases e : n = p.1
      · subst e
        rw [if_pos rfl, (mget_none_iff _ _).2 hl.1]; rfl
      · rw [if_neg e]; conv => rhs; unfold mget
        rw [if_neg e])
    rw [List.map_cons, List.sum_cons, h2]
    exact (sum_mdel h1).symm
where
  sum_mdel {n : ByteArray} {x : Int} : ∀ {m : List (ByteArray × Int)}, mget n m = some x → sumV m = x + sumV (mdel n m)
    | (k, y) :: m, h => by
      unfold mget at h
      unfold mdel
      by_cases e : n = k
      · rw [if_pos e] at h ⊢
        injection h with h
        subst h
        unfold sumV
        rw [List.map_cons, List.sum_cons]
      · rw [if_neg e] at h ⊢
        have := sum_mdel h
        unfold sumV at *
        rw [List.map_cons, List.sum_cons, List.map_cons, List.sum_cons, this]
        omega
theorem VIn.sum {w : World} {v b d kp : Nat} {lb lk : List (ByteArray × Value)} {X : VV} {F : Nat → Prop} (h : VIn w v b d kp lb lk X F) : (lk.map fun p => intOf p.2).sum = sumV X.kept :=
  sum_perm intOf h.keeps.nodup h.ok.kept.nodup (fun n => by rw [h.kents n]; cases mget n X.kept <;> rfl)
theorem VIn.each {w : World} {v b d kp : Nat} {lb lk : List (ByteArray × Value)} {X : VV} {F : Nat → Prop} (h : VIn w v b d kp lb lk X F) : ∀ p ∈ lk, ∃ q : Int, p.2 = .int .i64 q ∧ (1 ≤ q ∧ q ≤ 64) ∧ (p.1, q) ∈ X.kept := by
  intro p hp
  have h1 := h.kents p.1
  rw [mget_of_mem h.keeps.nodup (show (p.1, p.2) ∈ lk from hp)] at h1
  cases hm : mget p.1 X.kept with
  | none => rw [hm] at h1; cases h1
  | some q =>
    rw [hm] at h1
    injection h1 with h1
    exact ⟨q, h1, h.ok.each (p.1, q) (mem_of_mget hm), mem_of_mget hm⟩
theorem VIn.klen {w : World} {v b d kp : Nat} {lb lk : List (ByteArray × Value)} {X : VV} {F : Nat → Prop} (h : VIn w v b d kp lb lk X F) : (lk.map (·.1)).Perm (X.kept.map (·.1)) :=
  perm_names h.keeps.nodup h.ok.kept.nodup (fun n => by rw [h.kents n]; cases mget n X.kept <;> simp)

set_option maxRecDepth 100000 in
theorem v_bytes_nil (w : World) : Calls Try.prog 42 #[.pointer none] w fun e w' => e = .returned (.int .i64 0) ∧ w' = w := by
  go_enter Try.func42, Try.ntmps42
  go_wp2_with fail
  go_ret
  exact ⟨rfl, rfl⟩
set_option maxRecDepth 100000 in
set_option maxHeartbeats 2000000 in
theorem v_bytes (v d : Nat) (X : VV) (F : Nat → Prop) (w : World) (hv : VAt w v d X F) :
    Calls Try.prog 42 #[.pointer (some ⟨v, 0, none⟩)] w fun e w' => e = .returned (.int .i64 (bytesV X)) ∧ Kp No w w' := by
  obtain ⟨b, kp, lb, lk, F0, hv, hF⟩ := hv
  have H := Lib.hid hv
  have c1 : w.cell? ⟨v, 1, none⟩ = some (.pointer (some ⟨d, 0, none⟩)) := Blk.cell hv.blk rfl
  have c3 : w.cell? ⟨v, 3, none⟩ = some (.map (some kp)) := Blk.cell hv.blk rfl
  have hdown := d_down d X.d F0 w hv.disk
  unfold bytesV
  cases hoff : X.d.off with
  | true =>
    rw [hoff] at hdown
    simp only [if_true]
    clear hv hF c3 hoff
    go_enter Try.func42, Try.ntmps42
    go_wp2_with fail
    refine hdown.mono ?_
    rintro e w1 ⟨rfl, rfl⟩
    clear hdown
    go_wp2_with fail
    go_ret
    exact ⟨rfl, Kp.refl _ _⟩
  | false =>
    rw [hoff] at hdown
    simp only [Bool.false_eq_true, if_false]
    have hsum := hv.sum
    have heach := hv.each
    have hkl : lk.length = X.kept.length := by have := hv.klen.length_eq; simpa using this
    have hlen : lk.length ≤ 2000000 := by rw [hkl]; exact hv.ok.many
    obtain ⟨Z, hZ⟩ : ∃ Z, sumV X.kept = Z := ⟨_, rfl⟩
    rw [hZ] at hsum ⊢
    obtain ⟨w2, hrun, hrg, hk2, _⟩ := hv.keeps.range (P := Try.prog) Try.underlying69
    obtain ⟨r, hr⟩ : ∃ r, w.heap.size = r := ⟨_, rfl⟩
    rw [hr] at hrun hrg
    have HRG := Lib.hid hrg
    have HK2 := Lib.hid hk2
    have HE := Lib.hid heach
    have HSUM := Lib.hid hsum
    have HRR := Lib.hid hr
    clear hv hF hoff hZ hrg hk2 heach hsum hr hkl
    go_enter Try.func42, Try.ntmps42
    go_wp2_with fail
    refine hdown.mono ?_
    rintro e w1 ⟨rfl, rfl⟩
    clear hdown
    go_wp2_with fail
    clear c1 c3 hrun
    have hlast : ∀ wr todo, Ranges wr kp r Value.string lk todo → wr.rangeLeft kp r = todo.length := fun wr todo h => h.left
    have HLAST := Lib.hid hlast
    clear hlast
    go_loopw [3] (fun nv wr => ∃ (todo : List (ByteArray × Value)) (s : Int), nv = .int .i64 s ∧ Ranges wr kp r Value.string lk todo ∧ (∀ p ∈ todo, p ∈ lk) ∧ todo.length ≤ lk.length ∧ Kp No w1 wr ∧ s + (todo.map fun p => intOf p.2).sum = Z ∧ 0 ≤ s ∧ s + 64 * todo.length ≤ 64 * lk.length) (fun _ wr => wr.rangeLeft kp r)
    case atStart => exact ⟨lk, 0, rfl, HRG.out, fun _ h => h, Nat.le_refl _, HK2.out, by rw [HSUM.out]; omega, by omega, by omega⟩
    case round =>
      obtain ⟨todo, s, rfl, hrg, hsub, htl, hkp, hs, hs0, hsb⟩ := hrel
      have HRGR := Lib.hid hrg
      have HSUB := Lib.hid hsub
      have HKP := Lib.hid hkp
      have HS := Lib.hid hs
      clear hsub hkp hs
      rcases hrg.next (P := Try.prog) 0 with ⟨h0, hrun⟩ | ⟨n, x, t1, t2, w3, htd, hrun, hrg3, hk3, hs3, hen⟩
      · clear hrg
        go_wp2_with fail
        go_ret
        have e := HS.out
        rw [h0] at e
        simp at e
        rw [e]
        exact ⟨rfl, HKP.out⟩
      · obtain ⟨q, hq, ⟨hq1, hq2⟩, _⟩ := HE.out (n, x) (HSUB.out _ (by rw [htd]; simp))
        simp only at hq
        subst hq
        have HTD := Lib.hid htd
        have HRG3 := Lib.hid hrg3
        have HK3 := Lib.hid hk3
        have hl1 : todo.length = (t1 ++ t2).length + 1 := by rw [htd]; simp; omega
        clear hrg htd hrg3 hk3
        have hw : IntKind.i64.wrap (s + q) = s + q := wrap_i64 (by omega) (by omega)
        go_wp2_with fail
        have hrr := HRR.out
        have hk13 := HKP.out
        have hsum3 : s + q + ((t1 ++ t2).map fun p => intOf p.2).sum = Z := by
          have := HS.out
          rw [HTD.out] at this
          simp [intOf] at this ⊢
          omega
        have HS3 := Lib.hid hsum3
        have hlt : (t1 ++ t2).length < todo.length := by omega
        have HLT := Lib.hid HRGR.out.left
        clear hsum3
        go_roundw
        case rel => exact ⟨t1 ++ t2, s + q, by go_num, HRG3.out, fun p hp => HSUB.out p (by
          rw [HTD.out]
          rcases List.mem_append.1 hp with h | h
          · exact List.mem_append_left _ h
          · exact List.mem_append_right _ (List.mem_cons_of_mem _ h)), by omega, hk13.trans HK3.out (fun i hi e => by omega), HS3.out, by omega, by omega⟩
        case measure => rw [HLT.out, HLAST.out _ _ HRG3.out]; exact hlt
end Go.Proofs.Ytflodiljgphkdaa
