/-
  A drive that is none has nothing, and does nothing: DiskNil answers true for every input of bulk at most 1048576. (Said is false BY SIZE.)
-/
import Derived.Test.YtflodiljgphkdaaDid5
import Derived.Test.YtflodiljgphkdaaFDiskNil
namespace Go.Proofs.Ytflodiljgphkdaa
open Go.RowKit Go.ChangeShapes Go.WideShapes Go.ChangeAt

set_option maxRecDepth 100000 in
theorem z_append (n s : ByteArray) (w : World) : Calls Try.prog 15 #[.pointer none, .string n, .string s] w fun e w' => e = .returned (.int .i64 2) ∧ Kp No w w' := by
  go_enter Try.func15, Try.ntmps15
  go_wp2_with fail
  refine (d_ready_nil n _).mono ?_
  rintro e w2 ⟨rfl, rfl⟩
  go_wp2_with fail
  go_ret
  exact ⟨rfl, (((Kp.refl _ _).alloc _).alloc _).alloc _⟩
set_option maxRecDepth 100000 in
theorem z_known (n : ByteArray) (k : Nat) (cap : Array Value) (w : World) : Calls Try.prog 89 #[.pointer none, .string n, .func (.func k) #[] cap] w fun e w' => e = .returned (.int .i64 2) ∧ Kp No w w' := by
  go_enter Try.func89, Try.ntmps89
  go_wp2_with fail
  refine (d_ready_nil n _).mono ?_
  rintro e w2 ⟨rfl, rfl⟩
  go_wp2_with fail
  go_ret
  exact ⟨rfl, (Kp.refl _ _).alloc _⟩
set_option maxRecDepth 100000 in
theorem z_sync (n : ByteArray) (w : World) : Calls Try.prog 58 #[.pointer none, .string n] w fun e w' => e = .returned (.int .i64 2) ∧ Kp No w w' := by
  go_enter Try.func58, Try.ntmps58
  go_wp2_with fail
  refine (z_known n _ _ w).mono ?_
  rintro e w2 ⟨rfl, hk⟩
  have HK := Lib.hid hk
  clear hk
  go_wp2_with fail
  go_ret
  exact ⟨rfl, HK.out⟩
set_option maxRecDepth 100000 in
theorem z_remove (n : ByteArray) (w : World) : Calls Try.prog 60 #[.pointer none, .string n] w fun e w' => e = .returned (.int .i64 2) ∧ Kp No w w' := by
  go_enter Try.func60, Try.ntmps60
  go_wp2_with fail
  refine (z_known n _ _ _).mono ?_
  rintro e w2 ⟨rfl, hk⟩
  have HK := Lib.hid ((((Kp.refl No w).alloc _).alloc _).trans' hk)
  clear hk
  go_wp2_with fail
  go_ret
  exact ⟨rfl, HK.out⟩
set_option maxRecDepth 100000 in
theorem z_read (n : ByteArray) (w : World) : Calls Try.prog 16 #[.pointer none, .string n] w fun e w' => e = .returned (.tuple #[.string ByteArray.empty, .bool false]) ∧ w' = w := by
  go_enter Try.func16, Try.ntmps16
  go_wp2_with fail
  go_ret2
  exact ⟨rfl, rfl⟩
set_option maxRecDepth 100000 in
theorem z_names (n : ByteArray) (w : World) : Calls Try.prog 27 #[.pointer none, .string n] w fun e w' => e = .returned (.slice none 0 0) ∧ w' = w := by
  go_enter Try.func27, Try.ntmps27
  go_wp2_with fail
  go_ret
  exact ⟨rfl, rfl⟩
set_option maxRecDepth 100000 in
theorem z_fuse (n : Int) (w : World) : Calls Try.prog 59 #[.pointer none, .int .i64 n] w fun e w' => e = .returned (.tuple #[]) ∧ w' = w := by
  go_enter Try.func59, Try.ntmps59
  go_wp2_with fail
  go_end0
  exact ⟨rfl, rfl⟩
set_option maxRecDepth 100000 in
theorem z_crash (v : Value) (w : World) : Calls Try.prog 21 #[.pointer none, v] w fun e w' => e = .returned (.tuple #[]) ∧ w' = w := by
  go_enter Try.func21, Try.ntmps21
  go_wp2_with fail
  exact bodyPost_ret (results_none rfl _ _ _) rfl ⟨rfl, rfl⟩
set_option maxRecDepth 100000 in
theorem z_flip (n : ByteArray) (b : Int) (w : World) : Calls Try.prog 37 #[.pointer none, .string n, .int .i64 b] w fun e w' => e = .returned (.int .i64 2) ∧ w' = w := by
  go_enter Try.func37, Try.ntmps37
  go_wp2_with fail
  go_ret
  exact ⟨rfl, rfl⟩
set_option maxRecDepth 100000 in
theorem z_down (w : World) : Calls Try.prog 22 #[.pointer none] w fun e w' => e = .returned (.bool false) ∧ w' = w := by
  go_enter Try.func22, Try.ntmps22
  go_wp2_with fail
  go_ret
  exact ⟨rfl, rfl⟩
set_option maxRecDepth 100000 in
theorem z_steps (w : World) : Calls Try.prog 18 #[.pointer none] w fun e w' => e = .returned (.int .i64 0) ∧ w' = w := by
  go_enter Try.func18, Try.ntmps18
  go_wp2_with fail
  go_ret
  exact ⟨rfl, rfl⟩
set_option maxRecDepth 100000 in
theorem z_copy (w : World) : Calls Try.prog 30 #[.pointer none] w fun e w' => e = .returned (.pointer none) ∧ w' = w := by
  go_enter Try.func30, Try.ntmps30
  go_wp2_with fail
  go_ret
  exact ⟨rfl, rfl⟩
/-- what a call of a drive that is none answers -/
def errZ (k : Int) : Int := if (1 ≤ k ∧ k ≤ 3) ∨ k = 6 then 2 else 0
set_option maxRecDepth 100000 in
set_option maxHeartbeats 2000000 in
theorem z_did (w : World) (o : OpV) (A : Option Addr) (c : Nat) (S : Nat → Prop) (hv : (Rp.int .i64).slice.R w S [.slice A o.keeps.length c] o.keeps) (hkl : o.keeps.length ≤ 1048576) :
    Calls Try.prog 20 #[.pointer none, opAgg o (.slice A o.keeps.length c)] w fun e w' => e = .returned (.tuple #[.pointer none, .int .i64 (errZ o.kind)]) ∧ Kp No w w' := by
  by_cases k1 : o.kind = 1
  · skip
    have hc := fun w1 => z_append o.name o.data w1
    have he : errZ o.kind = 2 := by unfold errZ; simp [k1]
    rw [he]
    unfold opAgg
    rw [k1]
    clear he k1 hv 
    go_enter Try.func20, Try.ntmps20
    go_wp2_with fail
    refine (hc _).mono ?_
    rintro e w2 ⟨rfl, hk⟩
    have HK := Lib.hid hk
    clear hk hc
    go_wp2_with fail
    go_ret2
    exact ⟨rfl, by first | exact ((Kp.refl No w).alloc _).trans' HK.out | (rw [HK.out]; exact (Kp.refl No w).alloc _)⟩
  by_cases k2 : o.kind = 2
  · skip
    have hc := fun w1 => z_sync o.name w1
    have he : errZ o.kind = 2 := by unfold errZ; simp [k2]
    rw [he]
    unfold opAgg
    rw [k2]
    clear he k2 hv k1
    go_enter Try.func20, Try.ntmps20
    go_wp2_with fail
    refine (hc _).mono ?_
    rintro e w2 ⟨rfl, hk⟩
    have HK := Lib.hid hk
    clear hk hc
    go_wp2_with fail
    go_ret2
    exact ⟨rfl, by first | exact ((Kp.refl No w).alloc _).trans' HK.out | (rw [HK.out]; exact (Kp.refl No w).alloc _)⟩
  by_cases k3 : o.kind = 3
  · skip
    have hc := fun w1 => z_remove o.name w1
    have he : errZ o.kind = 2 := by unfold errZ; simp [k3]
    rw [he]
    unfold opAgg
    rw [k3]
    clear he k3 hv k1 k2
    go_enter Try.func20, Try.ntmps20
    go_wp2_with fail
    refine (hc _).mono ?_
    rintro e w2 ⟨rfl, hk⟩
    have HK := Lib.hid hk
    clear hk hc
    go_wp2_with fail
    go_ret2
    exact ⟨rfl, by first | exact ((Kp.refl No w).alloc _).trans' HK.out | (rw [HK.out]; exact (Kp.refl No w).alloc _)⟩
  by_cases k6 : o.kind = 6
  · skip
    have hc := fun w1 => z_flip o.name o.n w1
    have he : errZ o.kind = 2 := by unfold errZ; simp [k6]
    rw [he]
    unfold opAgg
    rw [k6]
    clear he k6 hv k1 k2 k3
    go_enter Try.func20, Try.ntmps20
    go_wp2_with fail
    refine (hc _).mono ?_
    rintro e w2 ⟨rfl, hk⟩
    have HK := Lib.hid hk
    clear hk hc
    go_wp2_with fail
    go_ret2
    exact ⟨rfl, by first | exact ((Kp.refl No w).alloc _).trans' HK.out | (rw [HK.out]; exact (Kp.refl No w).alloc _)⟩
  have he : errZ o.kind = 0 := by unfold errZ; rw [if_neg (by omega)]
  rw [he]
  by_cases k4 : o.kind = 4
  · have hc := fun w1 => z_fuse o.n w1
    unfold opAgg
    rw [k4]
    clear he k1 k2 k3 k4 k6 hv
    go_enter Try.func20, Try.ntmps20
    go_wp2_with fail
    refine (hc _).mono ?_
    rintro e w2 ⟨rfl, rfl⟩
    clear hc
    go_wp2_with fail
    go_ret2
    exact ⟨rfl, (Kp.refl No w).alloc _⟩
  by_cases k5 : o.kind = 5
  · obtain ⟨w1, hw1⟩ : ∃ w1, w.alloc (.cells #[.int .i64 o.kind, .string o.name, .string o.data, .int .i64 o.n, .slice A o.keeps.length c] 37) = w1 := ⟨_, rfl⟩
    have hk1 : Kp No w w1 := by rw [← hw1]; exact (Kp.refl _ _).alloc _
    have HK1 := Lib.hid hk1
    have HV1 := Lib.hid ((Rp.slice _).keptNo hv hk1)
    have hcell : w1.cell? ⟨w.heap.size, 4, none⟩ = some (.slice A o.keeps.length c) := by rw [← hw1]; exact (Blk.new w [_, _, _, _, _] 37).cell rfl
    have hcell0 : w1.cell? ⟨w.heap.size, 0, none⟩ = some (.int .i64 o.kind) := by rw [← hw1]; exact (Blk.new w [_, _, _, _, _] 37).cell rfl
    rw [k5] at hcell0 hw1
    unfold opAgg
    rw [k5]
    clear he k1 k2 k3 k4 k5 k6 hv hk1
    obtain ⟨ks, hks⟩ : ∃ ks, o.keeps = ks := ⟨_, rfl⟩
    rw [hks] at hkl hcell hw1 HV1 ⊢
    have hl1 : w.heap.size < w1.heap.size := by rw [← hw1]; simp
    go_enter Try.func20, Try.ntmps20
    go_wp2_with (at_builtin; refine wpList_copy_lit (E := Rp.int .i64) rfl w1 (.tmp 40) (.tmp 42) 34 rfl 3 8 el_ints rfl A c S ks rfl HV1.out Rp.int_one (by omega) ?_; intro A' c' w2 hown hk2)
    have HK2 := Lib.hid (HK1.out.trans' hk2)
    clear hown hk2
    refine (z_crash _ w2).mono ?_
    rintro e w3 ⟨rfl, rfl⟩
    go_wp2_with fail
    go_ret2
    exact ⟨rfl, HK2.out⟩
  by_cases k7 : o.kind = 7
  · have hc := fun w1 => z_copy w1
    unfold opAgg
    rw [k7]
    clear he k1 k2 k3 k4 k5 k6 k7 hv
    go_enter Try.func20, Try.ntmps20
    go_wp2_with fail
    refine (hc _).mono ?_
    rintro e w2 ⟨rfl, rfl⟩
    clear hc
    go_wp2_with fail
    go_ret2
    exact ⟨rfl, (Kp.refl No w).alloc _⟩
  · unfold opAgg
    clear he hv
    obtain ⟨K, hK⟩ : ∃ K, o.kind = K := ⟨_, rfl⟩
    rw [hK] at k1 k2 k3 k4 k5 k6 k7 ⊢
    clear hK
    go_enter Try.func20, Try.ntmps20
    go_wp2_with fail
    go_ret2
    exact ⟨rfl, (Kp.refl _ _).alloc _⟩

set_option maxRecDepth 100000 in
set_option maxHeartbeats 2000000 in
theorem diskNil_walk : DiskNilUptoWalk := by
  intro W v0 o v1 p h0 h1 hμ
  obtain ⟨A, c, hv, hn, hd, hkw, hnw, hks⟩ := h0
  obtain ⟨hv1, hp⟩ := h1
  simp only [List.cons.injEq, and_true] at hv hv1
  subst hv hv1
  have HKS := Lib.hid hks
  have HWF := Lib.hid (show (Lit.int .i64 o.kind).wf = true ∧ o.name.size ≤ maxLen ∧ o.data.size ≤ maxLen ∧ (Lit.int .i64 o.n).wf = true from ⟨hkw, hn, hd, hnw⟩)
  have hsz := op_μ o
  have hμ1 : Rp.op.μ o + (p.size + 1) ≤ 1048576 := hμ
  have hμ' : Rp.op.μ o ≤ 1048576 := by omega
  have HMS : Hid (Rp.op.μ o + 1 ≤ 1048576) := Lib.hid (by omega)
  have HKL : Hid (o.keeps.length ≤ 1048576) := Lib.hid (by omega)
  have HMU := Lib.hid hμ'
  clear hμ hμ' hμ1 hsz hks hn hd hp hkw hnw
  obtain ⟨w1, hw1⟩ : ∃ w1, W.alloc (.cells #[.int .i64 o.kind, .string o.name, .string o.data, .int .i64 o.n, .slice A o.keeps.length c] 37) = w1 := ⟨_, rfl⟩
  have hb1 : Blk w1 W.heap.size 37 [.int .i64 o.kind, .string o.name, .string o.data, .int .i64 o.n, .slice A o.keeps.length c] := by rw [← hw1]; exact Blk.new W [_, _, _, _, _] _
  have hk1 : Kp No W w1 := by rw [← hw1]; exact (Kp.refl _ _).alloc _
  have HB1 := Lib.hid hb1
  have HK1 := Lib.hid hk1
  obtain ⟨b, hb⟩ : ∃ b, W.heap.size = b := ⟨_, rfl⟩
  rw [hb] at HB1
  clear hb1 hk1
  go_enter Try.func8, Try.ntmps8
  go_wp2_with fail
  clear hw1
  refine (awake05 w1).mono ?_
  rintro e w2 ⟨rfl, hk2⟩
  have HB2 := Lib.hid (HB1.out.kept hk2 (fun x => x))
  have HK2 := Lib.hid (HK1.out.trans' hk2)
  have z0 : w2.cell? ⟨b, 0, none⟩ = some _ := HB2.out.cell rfl
  have z1 : w2.cell? ⟨b, 1, none⟩ = some _ := HB2.out.cell rfl
  have z2 : w2.cell? ⟨b, 2, none⟩ = some _ := HB2.out.cell rfl
  have z3 : w2.cell? ⟨b, 3, none⟩ = some _ := HB2.out.cell rfl
  have z4 : w2.cell? ⟨b, 4, none⟩ = some _ := HB2.out.cell rfl
  clear hk2
  go_wp2_with fail
  have hk3 : Kp No w2 (w2.alloc (.cells #[.int .i64 o.kind, .string o.name, .string o.data, .int .i64 o.n, .slice A o.keeps.length c] 37)) := (Kp.refl _ _).alloc _
  have hrd : Rp.op.slice.R (w2.alloc (.cells #[.int .i64 o.kind, .string o.name, .string o.data, .int .i64 o.n, .slice A o.keeps.length c] 37)) (fun _ => True) [.slice (some ⟨w2.heap.size, 0, none⟩) 1 1] [o] := by
    refine ⟨_, _, rfl, Nat.le_refl _, by simp [maxLen], fun _ => ⟨_, rfl, trivial, fun i a hi => ?_⟩⟩
    have hi0 : i = 0 := by have := (List.getElem?_eq_some_iff.1 hi).1; simp at this; exact this
    subst hi0
    have ha : o = a := by simpa using hi
    subst ha
    refine ⟨_, fun j u hu => ?_, .slice A o.keeps.length c, rfl, HWF.out.1, HWF.out.2.1, HWF.out.2.2.1, HWF.out.2.2.2, Rp.more _ ((Rp.slice _).keptNo ((Rp.slice _).keptNo HKS.out HK2.out) hk3) (fun _ _ => trivial)⟩
    rw [show ((⟨w2.heap.size, 0, none⟩ : Addr).add (0 * Rp.op.size)).add j = ⟨w2.heap.size, j, none⟩ by rw [Addr.add_lit, Nat.zero_mul, Addr.add_lit, Nat.zero_add]]
    exact (Blk.new w2 [.int .i64 o.kind, .string o.name, .string o.data, .int .i64 o.n, .slice A o.keeps.length c] 37).cell hu
  have hg := h_great5 [o] _ _ _ _ hrd (by have := HMU.out; show 1 + Rp.sumμ Rp.op.μ [o] ≤ 1048576; simp [Rp.sumμ]; have := HMS.out; omega)
  obtain ⟨B, hB⟩ : ∃ B, (greatB [o] 0 || decide (200 < [o].length)) = B := ⟨_, rfl⟩
  rw [hB] at hg
  have HK3 := Lib.hid (HK2.out.trans' hk3)
  have HG := Lib.hid hg
  clear hg hrd hk3 hB
  refine HG.out.mono ?_
  rintro e w3 ⟨rfl, hk3⟩
  have HK4 := Lib.hid (HK3.out.trans' hk3)
  have HB4 := Lib.hid ((HB2.out.kept (S := No) ((Kp.refl _ _).alloc _) (fun x => x)).kept hk3 (fun x => x))
  clear hk3 HG z0 z1 z2 z3 z4
  cases B with
  | true =>
    go_wp2_with fail
    refine (awake05 w3).mono ?_
    rintro e w4 ⟨rfl, hk4⟩
    have HK5 := Lib.hid (HK4.out.trans' hk4)
    clear hk4
    go_wp2_with fail
    go_ret
    exact ⟨rfl, HK5.out⟩
  | false =>
    have z0 : w3.cell? ⟨b, 0, none⟩ = some _ := HB4.out.cell rfl
    have z1 : w3.cell? ⟨b, 1, none⟩ = some _ := HB4.out.cell rfl
    have z2 : w3.cell? ⟨b, 2, none⟩ = some _ := HB4.out.cell rfl
    have z3 : w3.cell? ⟨b, 3, none⟩ = some _ := HB4.out.cell rfl
    have z4 : w3.cell? ⟨b, 4, none⟩ = some _ := HB4.out.cell rfl
    go_wp2_with fail
    have hc := z_did w3 o A c _ ((Rp.slice _).keptNo HKS.out HK4.out) HKL.out
    unfold opAgg at hc
    refine hc.mono ?_
    rintro e w4 ⟨rfl, hk4⟩
    have HB5 := Lib.hid (HB4.out.kept hk4 (fun x => x))
    have HK5 := Lib.hid (HK4.out.trans' hk4)
    clear hk4 hc z0 z1 z2 z3 z4
    have z0 : w4.cell? ⟨b, 0, none⟩ = some _ := HB5.out.cell rfl
    have z1 : w4.cell? ⟨b, 1, none⟩ = some _ := HB5.out.cell rfl
    obtain ⟨K, hK⟩ : ∃ K, o.kind = K := ⟨_, rfl⟩
    rw [hK] at z0
    rw [hK]
    by_cases k1 : 1 ≤ K ∧ K ≤ 3
    · obtain ⟨k1, k2⟩ := k1
      have he : errZ K = 2 := by unfold errZ; rw [if_pos (.inl ⟨k1, k2⟩)]
      rw [he]
      clear he hK
      go_wp2_with fail
      refine (z_read o.name w4).mono ?_
      rintro e w5 ⟨rfl, rfl⟩
      go_wp2_with fail
      refine (z_names p w5).mono ?_
      rintro e w6 ⟨rfl, rfl⟩
      go_wp2_with fail
      refine (z_down w6).mono ?_
      rintro e w7 ⟨rfl, rfl⟩
      go_wp2_with fail
      refine (z_steps w7).mono ?_
      rintro e w8 ⟨rfl, rfl⟩
      go_wp2_with fail
      refine (z_copy w8).mono ?_
      rintro e w9 ⟨rfl, rfl⟩
      go_wp2_with fail
      go_ret
      exact ⟨by first | rfl | (refine congrArg (fun b => Ending.returned (Value.bool b)) ?_; simp <;> omega), HK5.out⟩
    · by_cases k6 : K = 6
      · subst k6
        have he : errZ 6 = 2 := by decide
        rw [he]
        clear he hK
        go_wp2_with fail
        refine (z_read o.name w4).mono ?_
        rintro e w5 ⟨rfl, rfl⟩
        go_wp2_with fail
        refine (z_names p w5).mono ?_
        rintro e w6 ⟨rfl, rfl⟩
        go_wp2_with fail
        refine (z_down w6).mono ?_
        rintro e w7 ⟨rfl, rfl⟩
        go_wp2_with fail
        refine (z_steps w7).mono ?_
        rintro e w8 ⟨rfl, rfl⟩
        go_wp2_with fail
        refine (z_copy w8).mono ?_
        rintro e w9 ⟨rfl, rfl⟩
        go_wp2_with fail
        go_ret
        exact ⟨by first | rfl | (refine congrArg (fun b => Ending.returned (Value.bool b)) ?_; simp <;> omega), HK5.out⟩
      · have he : errZ K = 0 := by unfold errZ; rw [if_neg (by omega)]
        by_cases k0 : K < 1
        · clear k1
          rw [he]
          clear he hK
          go_wp2_with fail
          refine (z_read o.name w4).mono ?_
          rintro e w5 ⟨rfl, rfl⟩
          go_wp2_with fail
          refine (z_names p w5).mono ?_
          rintro e w6 ⟨rfl, rfl⟩
          go_wp2_with fail
          refine (z_down w6).mono ?_
          rintro e w7 ⟨rfl, rfl⟩
          go_wp2_with fail
          refine (z_steps w7).mono ?_
          rintro e w8 ⟨rfl, rfl⟩
          go_wp2_with fail
          refine (z_copy w8).mono ?_
          rintro e w9 ⟨rfl, rfl⟩
          go_wp2_with fail
          go_ret
          exact ⟨by first | rfl | (refine congrArg (fun b => Ending.returned (Value.bool b)) ?_; simp <;> omega), HK5.out⟩
        · have k3 : 3 < K := by omega
          have k4 : 1 ≤ K := by omega
          clear k1 k0
          rw [he]
          clear he hK
          go_wp2_with fail
          refine (z_read o.name w4).mono ?_
          rintro e w5 ⟨rfl, rfl⟩
          go_wp2_with fail
          refine (z_names p w5).mono ?_
          rintro e w6 ⟨rfl, rfl⟩
          go_wp2_with fail
          refine (z_down w6).mono ?_
          rintro e w7 ⟨rfl, rfl⟩
          go_wp2_with fail
          refine (z_steps w7).mono ?_
          rintro e w8 ⟨rfl, rfl⟩
          go_wp2_with fail
          refine (z_copy w8).mono ?_
          rintro e w9 ⟨rfl, rfl⟩
          go_wp2_with fail
          go_ret
          exact ⟨by first | rfl | (refine congrArg (fun b => Ending.returned (Value.bool b)) ?_; simp <;> omega), HK5.out⟩
theorem diskNil_holds : Rows.DiskNilUptoSaid := diskNilUpto_of diskNil_walk
#print axioms diskNil_holds
end Go.Proofs.Ytflodiljgphkdaa
