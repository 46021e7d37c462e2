/-
  slices.Reverse of operations.
-/
import Derived.Test.YtbncblnchcmgbaaRowG
import Derived.Test.YtbncblnchcmgbaaLitW
namespace Go.Proofs.Ytbncblnchcmgbaa
open Go.RowKit Go.ChangeShapes Go.WideShapes Go.ChangeAt

theorem run_load_opAt {w : World} {g o : Nat} {a : OpL} {A : Option Addr} {n c : Nat} (h : ∀ (k : Nat) u, (a.cells (.slice A n c))[k]? = some u → w.cell? ⟨g, o + k, none⟩ = some u) :
    (Instr.loadAt 38 (.pointer (some ⟨g, o, none⟩))).run Try.prog w = .ok (opV a (.slice A n c)) w := by
  have y0 : w.cell? ⟨g, o, none⟩ = some _ := h 0 _ rfl
  have y1 : w.cell? ⟨g, o + 1, none⟩ = some _ := h 1 _ rfl
  have y2 : w.cell? ⟨g, o + 2, none⟩ = some _ := h 2 _ rfl
  have y3 : w.cell? ⟨g, o + 3, none⟩ = some _ := h 3 _ rfl
  have y4 : w.cell? ⟨g, o + 4, none⟩ = some _ := h 4 _ rfl
  have y5 : w.cell? ⟨g, o + 5, none⟩ = some _ := h 5 _ rfl
  have y6 : w.cell? ⟨g, o + 6, none⟩ = some _ := h 6 _ rfl
  have y7 : w.cell? ⟨g, o + 7, none⟩ = some _ := h 7 _ rfl
  have y8 : w.cell? ⟨g, o + 8, none⟩ = some _ := h 8 _ rfl
  clear h
  unfold opV
  go_simp
theorem run_store_opAt (w : World) (g o : Nat) (a : OpL) (A : Option Addr) (n c : Nat) (b : OpL) (v : Value) (h : ∀ (k : Nat) u, (b.cells v)[k]? = some u → w.cell? ⟨g, o + k, none⟩ = some u) (hf : ∀ p, w.frozen? ⟨g, p, none⟩ = false) :
    (Instr.storeAt 38 (.pointer (some ⟨g, o, none⟩)) (opV a (.slice A n c))).run Try.prog w = .ok () (wset w g o (a.cells (.slice A n c))) := by
  have y0 : w.cell? ⟨g, o, none⟩ = some _ := h 0 _ rfl
  have y1 : w.cell? ⟨g, o + 1, none⟩ = some _ := h 1 _ rfl
  have y2 : w.cell? ⟨g, o + 2, none⟩ = some _ := h 2 _ rfl
  have y3 : w.cell? ⟨g, o + 3, none⟩ = some _ := h 3 _ rfl
  have y4 : w.cell? ⟨g, o + 4, none⟩ = some _ := h 4 _ rfl
  have y5 : w.cell? ⟨g, o + 5, none⟩ = some _ := h 5 _ rfl
  have y6 : w.cell? ⟨g, o + 6, none⟩ = some _ := h 6 _ rfl
  have y7 : w.cell? ⟨g, o + 7, none⟩ = some _ := h 7 _ rfl
  have y8 : w.cell? ⟨g, o + 8, none⟩ = some _ := h 8 _ rfl
  clear h
  unfold opV
  go_simp
  rfl
/-- turned around so far -/
def RevAt (n k : Nat) (l L : List OpL) : Prop := L.length = n ∧ ∀ p, p < n → L[p]? = if p < k ∨ n - k ≤ p then l[n - 1 - p]? else l[p]?
theorem RevAt.zero {l : List OpL} : RevAt l.length 0 l l := ⟨rfl, fun p hp => by rw [if_neg (by omega)]⟩
theorem RevAt.step {n k : Nat} {l L : List OpL} (h : RevAt n k l L) (hk : k < n - 1 - k) {x y : OpL} (hx : L[k]? = some x) (hy : L[n - 1 - k]? = some y) : RevAt n (k + 1) l ((L.set k y).set (n - 1 - k) x) := by
  obtain ⟨h1, h2⟩ := h
  have hxk := h2 k (by omega)
  have hyk := h2 (n - 1 - k) (by omega)
  rw [if_neg (by omega), hx] at hxk
  rw [if_neg (by omega), hy] at hyk
  refine ⟨by simp [h1], fun p hp => ?_⟩
  by_cases e1 : p = n - 1 - k
  · subst e1
    rw [List.getElem?_set_self (by simp [h1]; omega), if_pos (by omega), show n - 1 - (n - 1 - k) = k by omega, ← hxk]
  · rw [List.getElem?_set_ne (fun e => e1 e.symm)]
    by_cases e2 : p = k
    · subst e2
      rw [List.getElem?_set_self (by omega), if_pos (by omega), ← hyk]
    · rw [List.getElem?_set_ne (fun e => e2 e.symm), h2 p hp]
      by_cases e3 : p < k ∨ n - k ≤ p
      · rw [if_pos e3, if_pos (by omega)]
      · rw [if_neg e3, if_neg (by omega)]
theorem RevAt.full {n k : Nat} {l L : List OpL} (h : RevAt n k l L) (hl : l.length = n) (hk : n - 1 - k ≤ k) : L = l.reverse := by
  obtain ⟨h1, h2⟩ := h
  apply List.ext_getElem?
  intro p
  by_cases hp : p < n
  · rw [h2 p hp, List.getElem?_reverse (by omega), hl]
    by_cases e : p < k ∨ n - k ≤ p
    · rw [if_pos e]
    · rw [if_neg e, show n - 1 - p = p by omega]
  · rw [List.getElem?_eq_none (by omega), List.getElem?_eq_none (by rw [List.length_reverse]; omega)]
set_option maxRecDepth 100000 in
theorem m_rev0 (c : Nat) (A : Option Addr) (w : World) : Calls Try.prog 53 #[.slice A 0 c] w fun e w' => e = .returned (.tuple #[]) ∧ w' = w := by
  go_enter Try.func53, Try.ntmps53
  go_wp2_with fail
  go_loopw [2, 3] (fun iv jv wr => iv = .int .i64 0 ∧ jv = .int .i64 (-1) ∧ wr = w) (fun _ _ _ => 0)
  case atStart => exact ⟨rfl, rfl, rfl⟩
  case round =>
    obtain ⟨rfl, rfl, rfl⟩ := hrel
    go_wp2_with fail
    go_end0
    exact ⟨rfl, rfl⟩
set_option maxRecDepth 100000 in
set_option maxHeartbeats 4000000 in
theorem m_rev (l : List OpL) (n g c : Nat) (S : Nat → Prop) (w : World) (hn : n ≤ 1000000) (hr : RowG Rp.opl 38 w S g n l) (hg : ¬ S g) (hp : 0 < n) :
    Calls Try.prog 53 #[.slice (some ⟨g, 0, none⟩) n c] w fun e w' => e = .returned (.tuple #[]) ∧ RowG Rp.opl 38 w' S g n l.reverse ∧ Kp (· = g) w w' := by
  have hln : l.length = n := by obtain ⟨cs, _, _, h3, _⟩ := hr; exact h3
  have HR := Lib.hid hr
  have hrv : RevAt n 0 l l := by rw [← hln]; exact RevAt.zero
  have HRV := Lib.hid hrv
  have HG := Lib.hid hg
  clear hr hrv hg
  go_enter Try.func53, Try.ntmps53
  go_wp2_with fail
  go_loopw [2, 3] (fun iv jv wr => ∃ (k : Nat) (L : List OpL), k ≤ n ∧ iv = .int .i64 (k : Int) ∧ jv = .int .i64 ((n : Int) - 1 - (k : Int)) ∧ Hid (RowG Rp.opl 38 wr S g n L) ∧ Hid (RevAt n k l L) ∧ Hid (Kp (· = g) w wr)) (fun iv _ _ => n - (intOf iv).toNat)
  case atStart => exact ⟨0, l, Nat.zero_le _, rfl, by simp, HR, HRV, Lib.hid (Kp.refl _ _)⟩
  case round =>
    clear HR HRV
    obtain ⟨k, L, hk, rfl, rfl, HR, HRV, HKR⟩ := hrel
    by_cases hlt : k < n - 1 - k
    · have hli : (k : Int) < (n : Int) - 1 - (k : Int) := by omega
      obtain ⟨x, hx⟩ : ∃ x, L[k]? = some x := ⟨_, List.getElem?_eq_getElem (by rw [HRV.out.1]; omega)⟩
      obtain ⟨y, hy⟩ : ∃ y, L[n - 1 - k]? = some y := ⟨_, List.getElem?_eq_getElem (by rw [HRV.out.1]; omega)⟩
      obtain ⟨q, hq⟩ : ∃ q, n - 1 - k = q := ⟨_, rfl⟩
      have hqi : (n : Int) - 1 - (k : Int) = (q : Int) := by omega
      rw [hqi] at hli ⊢
      obtain ⟨wd, hwd⟩ : ∃ v, wr.drew = v := ⟨_, rfl⟩
      have hkd : Kp No wr wd := by rw [← hwd]; exact (Kp.refl _ _).drew
      have hrd := HR.out.keptNo hkd
      rw [hq] at hy
      obtain ⟨ex, _, hrx, hcx⟩ := hrd.cells hx
      obtain ⟨ey, _, hry, hcy⟩ := hrd.cells hy
      obtain ⟨hvx, rfl, hnx, Ax, cx, hvx2, hhx⟩ := id hrx
      obtain ⟨hvy, rfl, hny, Ay, cy, hvy2, hhy⟩ := id hry
      simp only [List.cons.injEq, and_true] at hvx2 hvy2
      subst hvx2 hvy2
      have hs1 := run_store_opAt wd g (k * 9) y Ay y.hashes.length cy x _ hcx hrd.fr
      have hr1 := hrd.set HG.out (j := k) (show k < n by omega) hry
      have hk1 : Kp (· = g) wd (wset wd g (k * 9) (y.cells (.slice Ay y.hashes.length cy))) := wset_kp
      obtain ⟨w1, hw1⟩ : ∃ v, wset wd g (k * 9) (y.cells (.slice Ay y.hashes.length cy)) = v := ⟨_, rfl⟩
      rw [show k * Rp.opl.size = k * 9 from rfl, hw1] at hr1
      rw [hw1] at hs1 hk1
      have hqk : q ≠ k := by omega
      have hqn : q < n := by omega
      obtain ⟨ez, _, hrz, hcz⟩ := hr1.cells (show (L.set k y)[q]? = some y by rw [List.getElem?_set_ne (fun e => hqk e.symm)]; exact hy)
      obtain ⟨hvz, rfl, _, Az, cz, hvz2, _⟩ := id hrz
      have hs2 := run_store_opAt w1 g (q * 9) x Ax x.hashes.length cx y _ hcz hr1.fr
      have hrx1 : Rp.opl.R w1 S (x.cells (.slice Ax x.hashes.length cx)) x := Rp.opl.kept hrx hk1 (fun k hk _ e => HG.out (e ▸ hk))
      have hr2 := hr1.set HG.out hqn hrx1
      have hk2 : Kp (· = g) w1 (wset w1 g (q * 9) (x.cells (.slice Ax x.hashes.length cx))) := wset_kp
      obtain ⟨w2, hw2⟩ : ∃ v, wset w1 g (q * 9) (x.cells (.slice Ax x.hashes.length cx)) = v := ⟨_, rfl⟩
      rw [show q * Rp.opl.size = q * 9 from rfl, hw2] at hr2
      rw [hw2] at hs2 hk2
      have hstep := HRV.out.step hlt hx (by rw [hq]; exact hy)
      rw [hq] at hstep
      have HS1 := Lib.hid hs1
      have HS2 := Lib.hid hs2
      have HR2 := Lib.hid hr2
      have HSTEP := Lib.hid hstep
      have HK2 : Hid (Kp (· = g) w w2) := Lib.hid (((HKR.out.trans hkd.any (fun _ _ h => h)).trans hk1 (fun _ _ h => h)).trans hk2 (fun _ _ h => h))
      have x0 : wd.cell? ⟨g, k * 9, none⟩ = some _ := hcx 0 _ rfl
      have x1 : wd.cell? ⟨g, k * 9 + 1, none⟩ = some _ := hcx 1 _ rfl
      have x2 : wd.cell? ⟨g, k * 9 + 2, none⟩ = some _ := hcx 2 _ rfl
      have x3 : wd.cell? ⟨g, k * 9 + 3, none⟩ = some _ := hcx 3 _ rfl
      have x4 : wd.cell? ⟨g, k * 9 + 4, none⟩ = some _ := hcx 4 _ rfl
      have x5 : wd.cell? ⟨g, k * 9 + 5, none⟩ = some _ := hcx 5 _ rfl
      have x6 : wd.cell? ⟨g, k * 9 + 6, none⟩ = some _ := hcx 6 _ rfl
      have x7 : wd.cell? ⟨g, k * 9 + 7, none⟩ = some _ := hcx 7 _ rfl
      have x8 : wd.cell? ⟨g, k * 9 + 8, none⟩ = some _ := hcx 8 _ rfl
      have y0 : wd.cell? ⟨g, q * 9, none⟩ = some _ := hcy 0 _ rfl
      have y1 : wd.cell? ⟨g, q * 9 + 1, none⟩ = some _ := hcy 1 _ rfl
      have y2 : wd.cell? ⟨g, q * 9 + 2, none⟩ = some _ := hcy 2 _ rfl
      have y3 : wd.cell? ⟨g, q * 9 + 3, none⟩ = some _ := hcy 3 _ rfl
      have y4 : wd.cell? ⟨g, q * 9 + 4, none⟩ = some _ := hcy 4 _ rfl
      have y5 : wd.cell? ⟨g, q * 9 + 5, none⟩ = some _ := hcy 5 _ rfl
      have y6 : wd.cell? ⟨g, q * 9 + 6, none⟩ = some _ := hcy 6 _ rfl
      have y7 : wd.cell? ⟨g, q * 9 + 7, none⟩ = some _ := hcy 7 _ rfl
      have y8 : wd.cell? ⟨g, q * 9 + 8, none⟩ = some _ := hcy 8 _ rfl
      have hkn : (k : Int) < (n : Int) := by omega
      have hqnI : (q : Int) < (n : Int) := by omega
      unfold opV at hs1 hs2
      have HS1 := Lib.hid hs1
      have HS2 := Lib.hid hs2
      clear hkd hrd hcx hcy hcz hrx hry hrz hs1 hs2 hr1 hr2 hrx1 hk1 hk2 hstep hnx hny hhx hhy hw1 hw2 hx hy
      go_wp2_with fail
      refine Reg.wp_region_plan [⟨0, false, []⟩, ⟨1, false, []⟩, ⟨2, false, []⟩, ⟨3, false, []⟩, ⟨4, false, []⟩, ⟨5, false, []⟩, ⟨6, false, []⟩, ⟨7, false, []⟩, ⟨8, false, []⟩, ⟨9, false, []⟩, ⟨10, false, []⟩, ⟨11, false, []⟩, ⟨12, false, []⟩, ⟨13, true, []⟩, ⟨14, false, []⟩, ⟨15, true, []⟩] rfl (by kernel_rfl) ?_
      rw [hwd]
      clear hwd
      repeat (first | (refine Reg.look rfl rfl rfl (by go_simp; rfl) rfl ?_; go_simp) | (refine Reg.skip rfl rfl rfl ?_; go_simp))
      refine Reg.act rfl ?_
      go_wp2_with (refine wpl_store (by first | rfl | go_simp) 38 _ _ rfl _ _ (by go_simp) (by go_simp) HS1.out ?_; go_simp)
      (refine ⟨?anew, ?_⟩; case anew => ((repeat (refine Reg.anew_cons rfl rfl (fun _ => by go_simp) ?_)); exact Reg.anew_nil))
      repeat (first | (refine Reg.look rfl rfl rfl (by go_simp; rfl) rfl ?_; go_simp) | (refine Reg.skip rfl rfl rfl ?_; go_simp))
      refine Reg.act rfl ?_
      go_wp2_with (refine wpl_store (by first | rfl | go_simp) 38 _ _ rfl _ _ (by go_simp) (by go_simp) HS2.out ?_; go_simp)
      (refine ⟨?anew, ?_⟩; case anew => ((repeat (refine Reg.anew_cons rfl rfl (fun _ => by go_simp) ?_)); exact Reg.anew_nil))
      repeat (first | (refine Reg.look rfl rfl rfl (by go_simp; rfl) rfl ?_; go_simp) | (refine Reg.skip rfl rfl rfl ?_; go_simp))
      (refine Reg.done ?_; simp only [Exit.then])
      go_wp2_with fail
      go_roundw
      case rel => exact ⟨k + 1, _, by omega, by go_num, by (simp only [Value.int.injEq, true_and]; omega), HR2, HSTEP, HK2⟩
      case measure => simp [intOf]; omega
    · have hli : ¬ (k : Int) < (n : Int) - 1 - (k : Int) := by omega
      have HRE := Lib.hid (HRV.out.full hln (by omega))
      go_wp2_with fail
      go_end0
      exact ⟨rfl, by rw [← HRE.out]; exact HR.out, HKR.out⟩
end Go.Proofs.Ytbncblnchcmgbaa
