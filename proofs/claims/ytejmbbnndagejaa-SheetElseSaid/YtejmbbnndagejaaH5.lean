/-
  awake of layer 8.
-/
import Derived.Test.YtejmbbnndagejaaH4
import Derived.Test.YtejmbbnndagejaaAbd
namespace Go.Proofs.Ytejmbbnndagejaa
open Go.RowKit Go.ChangeShapes Go.WideShapes Go.ChangeAt

def tABC : ByteArray := ⟨#[97, 98, 99]⟩
def tABD : ByteArray := ⟨#[97, 98, 100]⟩
theorem hashes_abc : hashesB tABC = [shaB tABC] := by
  unfold hashesB
  have h : cutsB tABC = [tABC] := by unfold cutsB; rw [cutsL_short (by decide) (by decide)]; rfl
  rw [h]; rfl
theorem hashes_empty : hashesB ⟨#[]⟩ = [] := by
  unfold hashesB
  have h : cutsB ⟨#[]⟩ = [] := by unfold cutsB; rw [show (⟨#[]⟩ : ByteArray).data.toList = [] from rfl, cutsL_nil]; rfl
  rw [h]; rfl
theorem sha_abd_ne : ¬ shaB tABD = shaB tABC := by
  intro h
  unfold shaB at h
  have h2 := bs_inj h
  rw [show tABD.data.toList = [97, 98, 100] from rfl, show tABC.data.toList = [97, 98, 99] from rfl, abc_sha, abd_sha] at h2
  exact absurd h2 (by decide)
theorem join1 (x : ByteArray) : joinB [x] = x := by
  unfold joinB
  simp only [List.map_cons, List.map_nil, List.flatten_cons, List.flatten_nil, List.append_nil]
  exact bs_of x
theorem ok_abc : okSheet 3 [shaB tABC] = true := by
  have h := okSheet_made tABC (by decide)
  rw [hashes_abc] at h
  exact h
theorem b_abc : buildA 3 [shaB tABC] [tABC] = (tABC, 0) := by
  have h := buildA_all (n := 3) (l := [shaB tABC]) (cs := [tABC]) ok_abc (by simp) (by rw [List.map_cons, List.map_nil]) (by rw [join1]; decide)
  rw [join1] at h
  exact h
theorem b_abd : buildA 3 [shaB tABC] [tABD] = (ByteArray.empty, 101) := buildA_bad ok_abc (by simp) (fun h => sha_abd_ne (by rw [List.map_cons, List.map_nil, List.cons.injEq] at h; exact h.1))
theorem b_none : buildA 3 [shaB tABC] [] = (ByteArray.empty, 1) := buildA_len ok_abc (by simp)
theorem p_none : packB 0 [] = [0, 0] := by
  unfold packB numB zz textsB
  simp only [List.length_nil]
  rw [if_pos (by decide), show ((2 * (0 : Int)).toNat) = 0 from rfl, vb_last (by decide)]
  rw [if_pos (by decide), show ((2 * ((0 : Nat) : Int)).toNat) = 0 from rfl, vb_last (by decide)]
  rfl

set_option maxRecDepth 100000 in
set_option maxHeartbeats 2000000 in
theorem awake08 (w : World) : Calls Try.prog 21 #[] w fun e w' => e = .returned (.bool true) ∧ Kp No w w' := by
  go_enter Try.func21, Try.ntmps21
  go_wp2_with fail
  refine (c_make tABC w (by decide)).mono ?_
  rintro e w1 ⟨⟨A1, c1, rfl, ho1⟩, hk1⟩
  rw [hashes_abc] at ho1 ⊢
  rw [show ((tABC.size : Nat) : Int) = 3 from rfl, show [shaB tABC].length = 1 from rfl] at *
  obtain ⟨D, hD⟩ : ∃ D, shaB tABC = D := ⟨_, rfl⟩
  have hb1 := b_abc
  have hb2 := b_abd
  have hb3 := b_none
  rw [hD] at hb1 hb2 hb3 ho1
  have HB1 := Lib.hid hb1
  have HB2 := Lib.hid hb2
  have HB3 := Lib.hid hb3
  have hlt := ho1.lt
  have HO1 := Lib.hid ((ho1.str_any (fun k => (Value.slice A1 1 c1).ownBlock = some k)).read (fun k hk => hk))
  have HK1 := Lib.hid hk1
  clear hb1 hb2 hb3 ho1 hk1 hD hlt
  go_wp2_with fail
  obtain ⟨w2, hw2⟩ : ∃ w2, w1.alloc (.cells #[.int .i64 3, .slice A1 1 c1] 34) = w2 := ⟨_, rfl⟩
  have HS2 : Hid (Blk w2 w1.heap.size 34 [.int .i64 3, .slice A1 1 c1]) := Lib.hid (by rw [← hw2]; exact Blk.new w1 _ _)
  have HK2 : Hid (Kp No w1 w2) := Lib.hid (by rw [← hw2]; exact (Kp.refl _ _).alloc _)
  have hsz2 : w1.heap.size + 1 = w2.heap.size := by rw [← hw2]; simp
  rw [hw2, hsz2]
  clear hw2 hsz2
  have hown : Own Rp.str (w2.alloc (.cells #[.string tABC] 9)) No w2.heap.size 9 (.slice (some ⟨w2.heap.size, 0, none⟩) [tABC].length [tABC].length) [tABC] := Own.of_cells Rp.str_by No (heap_alloc_new w2 _) rfl (by intro a ha; simp only [List.mem_cons, List.not_mem_nil, or_false] at ha; subst ha; decide) (Nat.le_refl _) (by simp [maxLen])
  refine (c_build 3 [D] A1 c1 (w2.alloc (.cells #[.string tABC] 9)) _ (Rp.str.slice.keptNo (Rp.str.slice.keptNo HO1.out HK2.out) ((Kp.refl _ _).alloc _)) (by omega) (by omega) (by simp) [tABC] _ _ w2.heap.size hown (by simp) (by intro a ha; simp only [List.mem_cons, List.not_mem_nil, or_false] at ha; subst ha; decide) (by rw [join1]; decide)).mono ?_
  rintro e w3 ⟨he, hk3⟩
  unfold BuildAns at he
  rw [HB1.out] at he
  subst he
  have hk3' : Kp No w2 w3 := ((Kp.refl _ _).alloc _).trans' hk3
  have HS3 := Lib.hid (HS2.out.kept hk3' (fun x => x))
  have HK3 := Lib.hid (HK2.out.trans' hk3')
  have c30 : w3.cell? ⟨w1.heap.size, 0, none⟩ = some (.int .i64 3) := HS3.out.cell rfl
  have c31 : w3.cell? ⟨w1.heap.size, 1, none⟩ = some (.slice A1 1 c1) := HS3.out.cell rfl
  clear hown hk3 hk3'
  go_wp2_with fail
  have hown : Own Rp.str (w3.alloc (.cells #[.string tABD] 9)) No w3.heap.size 9 (.slice (some ⟨w3.heap.size, 0, none⟩) [tABD].length [tABD].length) [tABD] := Own.of_cells Rp.str_by No (heap_alloc_new w3 _) rfl (by intro a ha; simp only [List.mem_cons, List.not_mem_nil, or_false] at ha; subst ha; decide) (Nat.le_refl _) (by simp [maxLen])
  refine (c_build 3 [D] A1 c1 (w3.alloc (.cells #[.string tABD] 9)) _ (Rp.str.slice.keptNo (Rp.str.slice.keptNo HO1.out HK3.out) ((Kp.refl _ _).alloc _)) (by omega) (by omega) (by simp) [tABD] _ _ w3.heap.size hown (by simp) (by intro a ha; simp only [List.mem_cons, List.not_mem_nil, or_false] at ha; subst ha; decide) (by rw [join1]; decide)).mono ?_
  rintro e w4 ⟨he, hk4⟩
  unfold BuildAns at he
  rw [HB2.out] at he
  subst he
  have hk4' : Kp No w3 w4 := ((Kp.refl _ _).alloc _).trans' hk4
  have HS4 := Lib.hid (HS3.out.kept hk4' (fun x => x))
  have HK4 := Lib.hid (HK3.out.trans' hk4')
  have c40 : w4.cell? ⟨w1.heap.size, 0, none⟩ = some (.int .i64 3) := HS4.out.cell rfl
  have c41 : w4.cell? ⟨w1.heap.size, 1, none⟩ = some (.slice A1 1 c1) := HS4.out.cell rfl
  clear hown hk4 hk4' c30 c31
  go_wp2_with fail
  refine (c_build 3 [D] A1 c1 w4 _ (Rp.str.slice.keptNo HO1.out HK4.out) (by omega) (by omega) (by simp) [] none 0 w4.heap.size (Own.nil _ _ _ _ _) (by simp) (by simp) (by decide)).mono ?_
  rintro e w5 ⟨he, hk5⟩
  unfold BuildAns at he
  rw [HB3.out] at he
  subst he
  have HS5 := Lib.hid (HS4.out.kept hk5 (fun x => x))
  have HK5 := Lib.hid (HK4.out.trans' hk5)
  have c51 : w5.cell? ⟨w1.heap.size, 1, none⟩ = some (.slice A1 1 c1) := HS5.out.cell rfl
  clear hk5 c40 c41
  go_wp2_with fail
  refine (c_make ⟨#[]⟩ w5 (by decide)).mono ?_
  rintro e w6 ⟨⟨A6, c6, rfl, ho6⟩, hk6⟩
  rw [hashes_empty] at ho6 ⊢
  rw [show (((⟨#[]⟩ : ByteArray).size : Nat) : Int) = 0 from rfl, show ([] : List ByteArray).length = 0 from rfl] at *
  have HR6 := Lib.hid ((ho6.str_any (fun k => (Value.slice A6 0 c6).ownBlock = some k)).read (fun k hk => hk))
  have HS6 := Lib.hid (HS5.out.kept hk6 (fun x => x))
  have HK6 := Lib.hid (HK5.out.trans' hk6)
  clear ho6 hk6 c51
  have htl : tABC.toList = [97, 98, 99] := by decide +kernel
  go_wp2_with fail
  obtain ⟨w7, hw7⟩ : ∃ w7, w6.alloc (.cells #[.int .i64 0, .slice A6 0 c6] 34) = w7 := ⟨_, rfl⟩
  have HK7 : Hid (Kp No w6 w7) := Lib.hid (by rw [← hw7]; exact (Kp.refl _ _).alloc _)
  have HS7 := Lib.hid (HS6.out.kept HK7.out (fun x => x))
  rw [hw7]
  clear hw7
  refine (c_packS 0 [] A6 c6 w7 _ (Rp.str.slice.keptNo HR6.out HK7.out) (by omega) (by omega) (by simp) (by simp [textsB]) (by simp)).mono ?_
  rintro e w8 ⟨rfl, hk8⟩
  rw [p_none]
  have c81 : w8.cell? ⟨w1.heap.size, 1, none⟩ = some (.slice A1 1 c1) := (HS7.out.kept hk8 (fun x => x)).cell rfl
  have HK8 := Lib.hid (HK1.out.trans' ((HK6.out.trans' HK7.out).trans' hk8))
  have htl2 : (bs [0, 0]).toList = [0, 0] := by decide +kernel
  clear hk8
  generalize bs [0, 0] = Z at *
  go_wp2_with fail
  go_ret
  exact ⟨rfl, HK8.out⟩
end Go.Proofs.Ytejmbbnndagejaa
