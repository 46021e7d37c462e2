/-
  The document's vault: Put.
-/
import Derived.Test.YtflodiljgphkdaaGreatVD3
namespace Go.Proofs.YtflodiljgphkdaaGreat
open Go.RowKit Go.ChangeShapes Go.WideShapes Go.ChangeAt

theorem Own.shp {α : Type} {E : Rp α} {w : World} {S : Nat → Prop} {base : Nat} {e : TypeId} {v : Value} {l : List α} (h : Own E w S base e v l) : (v = .slice none 0 0 ∧ l = []) ∨ ∃ g c, v = .slice (some ⟨g, 0, none⟩) l.length c ∧ l.length ≤ c := by
  obtain ⟨xs, ⟨h0, h1⟩, _, h3⟩ := h
  rcases h1 with ⟨rfl, h1⟩ | ⟨g, cap, cur, rfl, hb, hg, hn, _⟩
  · exact .inl ⟨rfl, List.eq_nil_of_length_eq_zero h1⟩
  · exact .inr ⟨g, cap, rfl, hn⟩
theorem str_lit1 (w : World) (s : ByteArray) (hs : s.size ≤ maxLen) (ty : TypeId) (S : Nat → Prop) (hS : S w.heap.size) : Rp.str.slice.R (w.alloc (.cells #[.string s] ty)) S [.slice (some ⟨w.heap.size, 0, none⟩) 1 1] [s] := by
  refine Rp.of_block1 (E := Rp.str) (l := [s]) rfl Value.string (heap_alloc_new w _) hS rfl (Nat.le_refl _) (by show 1 ≤ maxLen; decide) ?_
  intro x hx
  simp only [List.mem_cons, List.not_mem_nil, or_false] at hx
  subst hx
  exact ⟨rfl, hs⟩
theorem str_none (w : World) (S : Nat → Prop) : Rp.str.slice.R w S [.slice none 0 0] [] := ⟨_, _, rfl, Nat.le_refl _, Nat.zero_le _, fun h => absurd h (by simp)⟩
theorem Own.cutS {w : World} {base g c i : Nat} {l : List ByteArray} (h : Own Rp.str w No base 9 (.slice (some ⟨g, 0, none⟩) l.length c) l) (hi : i ≤ l.length) :
    Rp.str.slice.R w (fun k => k < w.heap.size) [.slice (if c = i then some ⟨g, 0, none⟩ else some ⟨g, i, none⟩) (l.drop i).length (c - i)] (l.drop i) := by
  have hr := (h.str_any (fun k => k < w.heap.size)).read (fun k hk => (h.lt k hk).2)
  obtain ⟨A', c', he, hc1, hc2, _⟩ := id hr
  simp only [List.cons.injEq, Value.slice.injEq, and_true, true_and] at he
  obtain ⟨rfl, rfl⟩ := he
  by_cases hci : c = i
  · have h0 : l.drop i = [] := List.drop_eq_nil_of_le (by omega)
    rw [h0]
    exact ⟨_, _, rfl, Nat.zero_le _, by omega, fun h => absurd h (by simp)⟩
  · rw [if_neg hci]
    have h2 := Rp.cut hr hi
    rw [Addr.add_lit, Nat.zero_add] at h2
    simpa [Rp.str] using h2
theorem Own.headS {w : World} {base c i : Nat} {A : Option Addr} {l : List ByteArray} (h : Own Rp.str w No base 9 (.slice A l.length c) l) (hi : i ≤ l.length) :
    Rp.str.slice.R w (fun k => k < w.heap.size) [.slice A (l.take i).length (l.take i).length] (l.take i) := by
  have hr := (h.str_any (fun k => k < w.heap.size)).read (fun k hk => (h.lt k hk).2)
  obtain ⟨A', c', he, hc1, hc2, hc3⟩ := Rp.head hr hi
  simp only [List.cons.injEq, Value.slice.injEq, and_true, true_and] at he
  obtain ⟨rfl, rfl⟩ := he
  exact ⟨_, _, rfl, Nat.le_refl _, by omega, hc3⟩
/-- the names behind one that was put in -/
theorem ins_names {h : ByteArray} {k : Int} {l : List (ByteArray × Int)} (hr : Rising l) (hn : mget h l = none) {i : Nat} (hi : rank h l = i) : (ins h k l).map (·.1) = (l.map (·.1)).take i ++ [h] ++ (l.map (·.1)).drop i := by
  rw [ins_new k hr hn, hi, List.map_append, List.map_cons, List.map_take, List.map_drop, List.append_assoc]; rfl

set_option maxRecDepth 100000 in
set_option maxHeartbeats 4000000 in
/-- (*redoubtref10.Vault).Put -/
theorem e_put {w0 : World} {m r : Nat} {kv : Value} {X : VV} (s : ByteArray) (hss : s.size ≤ 1048576) (w : World) (hv : RVn w0 w m r kv X) (hX : Loose X) (hm : X.kept.length < 1000000) (hfl : X.d.files.length ≤ 900000) :
    Calls Tryz.prog 11 #[.pointer (some ⟨m, 0, none⟩), .string s] w fun e w' => e = .returned (.tuple #[.string (putV s X).1.1, .int .i64 (putV s X).1.2]) ∧ (∃ kv', RVn w0 w' m r kv' (putV s X).2 ∧ Fr w kv kv') ∧ KpTy RT w0 w w' := by
  have HV := Lib.hid hv
  have HX := Lib.hid hX
  obtain ⟨G, hG⟩ : ∃ G, putV s X = G := ⟨_, rfl⟩
  rw [hG]
  unfold putV at hG
  by_cases h0 : s.size = 0
  · rw [if_pos (.inl h0)] at hG
    have h0i : (s.size : Int) < 1 := by omega
    have HG := Lib.hid hG
    clear hv hX hG
    go_enter Tryz.func11, Tryz.ntmps11
    go_wp2_with fail
    go_ret2
    rw [← HG.out]
    exact ⟨rfl, ⟨_, HV.out, .inl rfl⟩, KpTy.refl _ _ _⟩
  have h0i : ¬ (s.size : Int) < 1 := by omega
  by_cases h64 : 64 < s.size
  · rw [if_pos (.inr h64)] at hG
    have h64i : (64 : Int) < (s.size : Int) := by omega
    have HG := Lib.hid hG
    clear hv hX hG
    go_enter Tryz.func11, Tryz.ntmps11
    go_wp2_with fail
    go_ret2
    rw [← HG.out]
    exact ⟨rfl, ⟨_, HV.out, .inl rfl⟩, KpTy.refl _ _ _⟩
  have h64i : ¬ (64 : Int) < (s.size : Int) := by omega
  rw [if_neg (by omega), hX.off] at hG
  simp only [Bool.false_eq_true, if_false] at hG
  have hn := hv
  have HN := Lib.hid hn
  clear hv
  have c0 : w.cell? ⟨m, 0, none⟩ = some (.pointer (some ⟨r, 0, none⟩)) := Blk.cell hn.blk rfl
  obtain ⟨fv, hrb⟩ := hn.disk.blk2
  have d2 : w.cell? ⟨r, 2, none⟩ = some (.bool X.d.off) := Blk.cell hrb rfl
  rw [hX.off] at d2
  have hsum := r_sum s w hss
  rw [show bs (Go.Proofs.YtflodiljgphkdaaGreat.sha s.data.toList) = digest s from rfl] at hsum
  have hHs := digest_size s
  obtain ⟨H, hH⟩ : ∃ H, digest s = H := ⟨_, rfl⟩
  rw [hH] at hsum hG hHs
  have HSUM := Lib.hid hsum
  have HH := Lib.hid hH
  have HHS := Lib.hid hHs
  have hhas := fun w1 (hk : Kp No w w1) => e_has H (by omega) w1 ⟨kv, HV.out.kept hk⟩
  have hkeeps := fun w1 (hk : Kp No w w1) => e_keeps H w1 ⟨kv, HV.out.kept hk⟩
  cases hA : hasV H X with
  | true =>
    rw [hA] at hhas hG
    simp only [if_true] at hG
    have HG := Lib.hid hG
    have HHAS := Lib.hid hhas
    clear hn hX hG hrb hsum hH hHs hhas hkeeps hA
    go_enter Tryz.func11, Tryz.ntmps11
    go_wp2_with fail
    refine HSUM.out.mono ?_
    rintro e w1 ⟨rfl, hk⟩
    have HK1 := Lib.hid hk
    clear hk
    go_wp2_with fail
    refine (HHAS.out w1 HK1.out).mono ?_
    rintro e w2 ⟨rfl, hk⟩
    have HK2 := Lib.hid (HK1.out.trans' hk)
    clear hk
    go_wp2_with fail
    go_ret2
    rw [← HG.out]
    exact ⟨rfl, ⟨_, HV.out.kept HK2.out, .inl rfl⟩, KpTy.ofNo HK2.out⟩
  | false =>
    rw [hA] at hhas hG
    simp only [Bool.false_eq_true, if_false] at hG
    have HHAS := Lib.hid hhas
    cases hK : keepsV H X with
    | false =>
      rw [hK] at hkeeps hG
      simp only [Bool.false_eq_true, if_false] at hG
      have HG := Lib.hid hG
      have HKE := Lib.hid hkeeps
      have HYN := Lib.hid (keepsV_none hK)
      have HYM : Hid (X.kept.length < 1000000) := Lib.hid hm
      have HYF : Hid (X.d.files.length ≤ 900000) := Lib.hid hfl
      clear hn hX hG hrb hsum hH hHs hhas hkeeps hA hK hm hfl
      go_enter Tryz.func11, Tryz.ntmps11
      go_wp2_with fail
      refine HSUM.out.mono ?_
      rintro e w1 ⟨rfl, hk⟩
      have HK1 := Lib.hid hk
      clear hk
      go_wp2_with fail
      refine (HHAS.out w1 HK1.out).mono ?_
      rintro e w2 ⟨rfl, hk⟩
      have HK2 := Lib.hid (HK1.out.trans' hk)
      clear hk
      go_wp2_with fail
      refine (HKE.out w2 HK2.out).mono ?_
      rintro e w4 ⟨rfl, hk⟩
      have HK4 := Lib.hid (HK2.out.trans' hk)
      have HVY := Lib.hid (HV.out.kept HK4.out)
      have HKY : Hid (KpTy RT w0 w w4) := Lib.hid (KpTy.ofNo HK4.out)
      have HY := HX
      clear hk HK1 HK2 HK4 HHAS HKE HSUM HN HV c0 d2
      generalize X = Y at *
      obtain ⟨kvY, hkvY⟩ : ∃ kvY, kv = kvY := ⟨_, rfl⟩
      have HFR : Hid (Fr w kv kvY) := Lib.hid (by rw [← hkvY]; exact .inl rfl)
      rw [hkvY] at HVY
      clear hkvY
      have hny := HVY.out
      have HNY := Lib.hid hny
      have c1 : (w4).cell? ⟨m, 1, none⟩ = some (.int .i64 Y.quota) := Blk.cell hny.blk rfl
      obtain ⟨N, hN⟩ : ∃ N, bytesV Y = N := ⟨_, rfl⟩
      have hN0 : 0 ≤ N ∧ N ≤ 128000000 := by
        have hb : N = sumV Y.kept := by rw [← hN]; unfold bytesV; rw [HY.out.off]; rfl
        have h1 := sumV_le (l := Y.kept) (fun q hq => HY.out.ok.each q hq)
        have h2 := HY.out.ok.many
        omega
      have hbt := fun w1 (hk : Kp No (w4) w1) => e_bytes w1 ⟨_, HVY.out.kept hk⟩ HY.out
      rw [hN] at hbt
      have HBT := Lib.hid hbt
      have hcase := HY.out.write s (by omega) (by omega) (by rw [HH.out]; exact HYN.out) (by have := HYM.out; omega)
      rw [HH.out, hN] at hcase
      have hap := HY.out.append (c := s) (by omega) (by rw [HH.out]; exact HYN.out)
      have hsy := HY.out.sync (c := s)
      rw [HH.out] at hap hsy
      have HCASE := Lib.hid hcase
      have HAP := Lib.hid hap
      have HSY := Lib.hid hsy
      obtain ⟨q, hq⟩ : ∃ q, Y.quota = q := ⟨_, rfl⟩
      have hq0 := HY.out.ok.quota
      rw [hq] at c1 hq0
      have HQ := Lib.hid hq
      clear hny hN hbt hcase hap hsy hq
      go_wp2_with fail
      refine Reg.wp_region_plan [⟨0, false, []⟩, ⟨2, false, []⟩, ⟨3, false, []⟩, ⟨5, false, []⟩, ⟨6, false, []⟩, ⟨7, false, []⟩, ⟨8, false, []⟩, ⟨1, true, [3, 6, 7, 8]⟩, ⟨4, false, []⟩, ⟨9, false, []⟩] rfl (by kernel_rfl) ?_
      repeat (first | (refine Reg.look rfl rfl rfl (by go_simp; rfl) rfl ?_; go_simp) | (refine Reg.skip rfl rfl rfl ?_; go_simp))
      refine Reg.act rfl ?_
      go_wp2_with fail
      refine (HBT.out _ (Kp.refl _ _).drew).mono ?_
      rintro e w3 ⟨rfl, hk3⟩
      have hk3 : Kp No (w4) w3 := ((Kp.refl No (w4)).drew).trans' hk3
      have HK3 := Lib.hid hk3
      have c1' : w3.cell? ⟨m, 1, none⟩ = some (.int .i64 q) := by have h := Blk.cell (Blk.kept HNY.out.blk hk3 (fun x => x)) (i := 1) rfl; rw [HQ.out] at h; exact h
      have c0' : w3.cell? ⟨m, 0, none⟩ = some (.pointer (some ⟨r, 0, none⟩)) := Blk.cell (Blk.kept HNY.out.blk hk3 (fun x => x)) rfl
      have hwr : IntKind.i64.wrap (N + (s.size : Int)) = N + (s.size : Int) := wrap_i64 (by omega) (by omega)
      clear hk3 HBT c1
      go_wp2_with fail
      (refine ⟨?anew, ?_⟩; case anew => ((repeat (refine Reg.anew_cons rfl rfl (fun _ => by go_simp) ?_)); exact Reg.anew_nil))
      repeat (first | (refine Reg.look rfl rfl rfl (by go_simp; rfl) rfl ?_; go_simp) | (refine Reg.skip rfl rfl rfl ?_; go_simp))
      (refine Reg.done ?_; simp only [Exit.then])
      by_cases hqN : q < N + (s.size : Int)
      · have hg : writeV s H Y = ((.empty, 102), Y) := by
          rcases HCASE.out with h | h
          · exact h.2
          · rw [HQ.out] at h; exact absurd hqN (Int.not_lt.2 h.1)
        have HGV := Lib.hid (HG.out.symm.trans hg)
        have HVF := Lib.hid (show RVn w0 w3 m r kvY Y from HVY.out.kept HK3.out)
        have HKF := Lib.hid (HKY.out.trans (KpTy.ofNo HK3.out))
        clear hg HCASE
        go_wp2_with fail
        go_ret2
        rw [HGV.out]
        exact ⟨rfl, ⟨_, HVF.out, HFR.out⟩, HKF.out⟩
      have hg : writeV s H Y = ((H, 0), { Y with d := addD s Y.d, kept := ins H (s.size : Int) Y.kept }) := by
        rcases HCASE.out with h | h
        · rw [HQ.out] at h; exact absurd h.1 hqN
        · exact h.2.1
      have HGV := Lib.hid (HG.out.symm.trans hg)
      have hfi := fun w1 => e_file H (by rw [HHS.out]; decide) w1
      have HFI := Lib.hid hfi
      have hapd := fun w1 (hk : Kp No w3 w1) => m_append (fileN H) s w1 (HNY.out.disk.kept (HK3.out.trans' hk)) (Nat.le_trans HYF.out (by decide)) (fileN_le H (by rw [HHS.out]; decide))
      rw [HAP.out] at hapd
      have HAPD := Lib.hid hapd
      clear hg HCASE hfi hapd
      go_wp2_with fail
      refine Reg.wp_region_plan [⟨0, false, []⟩, ⟨1, false, []⟩, ⟨2, false, []⟩, ⟨3, false, []⟩, ⟨4, false, []⟩, ⟨6, false, []⟩, ⟨5, true, [1, 2, 3]⟩, ⟨7, true, []⟩, ⟨8, false, []⟩] rfl (by kernel_rfl) ?_
      repeat (first | (refine Reg.look rfl rfl rfl (by go_simp; rfl) rfl ?_; go_simp) | (refine Reg.skip rfl rfl rfl ?_; go_simp))
      refine Reg.act rfl ?_
      go_wp2_with fail
      refine (HFI.out _).mono ?_
      rintro e w5 ⟨rfl, hk⟩
      have hk5 : Kp No w3 w5 := ((Kp.refl No w3).drew).trans' hk
      have HKA := Lib.hid hk5
      have c0a : w5.cell? ⟨m, 0, none⟩ = some (.pointer (some ⟨r, 0, none⟩)) := Blk.cell (Blk.kept HNY.out.blk (HK3.out.trans' hk5) (fun x => x)) rfl
      clear hk hk5
      go_wp2_with fail
      (refine ⟨?anew, ?_⟩; case anew => ((repeat (refine Reg.anew_cons rfl rfl (fun _ => by go_simp) ?_)); exact Reg.anew_nil))
      repeat (first | (refine Reg.look rfl rfl rfl (by go_simp; rfl) rfl ?_; go_simp) | (refine Reg.skip rfl rfl rfl ?_; go_simp))
      refine Reg.act rfl ?_
      go_wp2_with fail
      refine (HAPD.out w5 HKA.out).mono ?_
      rintro e w6 ⟨rfl, hd6, hk6⟩
      have hv6 := (HNY.out.kept (HK3.out.trans' HKA.out)).turned hd6 hk6
      have HN6 := Lib.hid hv6
      have HK6 := Lib.hid ((HKY.out.trans (KpTy.ofNo (HK3.out.trans' HKA.out))).trans (hk6.mono fun _ => RD.rt))
      have c0b : w6.cell? ⟨m, 0, none⟩ = some (.pointer (some ⟨r, 0, none⟩)) := Blk.cell hv6.blk rfl
      have hsyd := fun w1 (hk : Kp No w6 w1) => m_sync (fileN H) w1 (hv6.disk.kept hk) (fileN_le H (by rw [HHS.out]; decide))
      simp only [HSY.out] at hsyd
      have HSYD := Lib.hid hsyd
      clear hd6 hk6 hv6 hsyd c0a c0' c1'
      go_wp2_with fail
      (refine ⟨?anew, ?_⟩; case anew => ((repeat (refine Reg.anew_cons rfl rfl (fun _ => by go_simp) ?_)); exact Reg.anew_nil))
      repeat (first | (refine Reg.look rfl rfl rfl (by go_simp; rfl) rfl ?_; go_simp) | (refine Reg.skip rfl rfl rfl ?_; go_simp))
      (refine Reg.done ?_; simp only [Exit.then])
      go_wp2_with fail
      refine Reg.wp_region_plan [⟨0, false, []⟩, ⟨1, false, []⟩, ⟨2, false, []⟩, ⟨3, false, []⟩, ⟨4, false, []⟩, ⟨5, true, [1, 2, 3]⟩, ⟨6, true, []⟩, ⟨7, false, []⟩] rfl (by kernel_rfl) ?_
      repeat (first | (refine Reg.look rfl rfl rfl (by go_simp; rfl) rfl ?_; go_simp) | (refine Reg.skip rfl rfl rfl ?_; go_simp))
      refine Reg.act rfl ?_
      go_wp2_with fail
      refine (HFI.out _).mono ?_
      rintro e w7 ⟨rfl, hk⟩
      have hk7 : Kp No w6 w7 := ((Kp.refl No w6).drew).trans' hk
      have HKB := Lib.hid hk7
      have c0c : w7.cell? ⟨m, 0, none⟩ = some (.pointer (some ⟨r, 0, none⟩)) := Blk.cell (Blk.kept HN6.out.blk hk7 (fun x => x)) rfl
      clear hk hk7
      go_wp2_with fail
      (refine ⟨?anew, ?_⟩; case anew => ((repeat (refine Reg.anew_cons rfl rfl (fun _ => by go_simp) ?_)); exact Reg.anew_nil))
      repeat (first | (refine Reg.look rfl rfl rfl (by go_simp; rfl) rfl ?_; go_simp) | (refine Reg.skip rfl rfl rfl ?_; go_simp))
      refine Reg.act rfl ?_
      go_wp2_with fail
      refine (HSYD.out w7 HKB.out).mono ?_
      rintro e w8 ⟨rfl, hd8, hk8⟩
      have HN5 : Hid (RVn w0 w8 m r kvY { Y with d := addD s Y.d }) := Lib.hid ((HN6.out.kept HKB.out).turned hd8 hk8)
      have HK5 := Lib.hid ((HK6.out.trans (KpTy.ofNo HKB.out)).trans (hk8.mono fun _ => RD.rt))
      clear hd8 hk8 c0b c0c HN6 HK6 HKA HKB HSYD HAPD HFI
      go_wp2_with fail
      (refine ⟨?anew, ?_⟩; case anew => ((repeat (refine Reg.anew_cons rfl rfl (fun _ => by go_simp) ?_)); exact Reg.anew_nil))
      repeat (first | (refine Reg.look rfl rfl rfl (by go_simp; rfl) rfl ?_; go_simp) | (refine Reg.skip rfl rfl rfl ?_; go_simp))
      (refine Reg.done ?_; simp only [Exit.then])
      obtain ⟨L, hL⟩ : ∃ L, names Y = L := ⟨_, rfl⟩
      have HL := Lib.hid hL
      have hown := HN5.out.own
      rw [show names { Y with d := addD s Y.d } = L from hL] at hown
      have hlk : Y.kept.length = L.length := by rw [← hL]; unfold names; rw [List.length_map]
      have HLK := Lib.hid hlk
      rcases hown.shp with ⟨rfl, hL0⟩ | ⟨g, c, rfl, hlc⟩
      · have hk0 : Y.kept = [] := List.eq_nil_of_length_eq_zero (by rw [hlk, hL0]; rfl)
        have hrk0 : rank H Y.kept = 0 := by rw [hk0]; rfl
        have HRK0 := Lib.hid hrk0
        have HL0 := Lib.hid hL0
        clear hown hL hlk hk0 hrk0 hL0
        go_wp2_with fail
        go_loopw [10] (fun iv wr => iv = .int .i64 0 ∧ Hid (Kp No w8 wr)) (fun _ _ => 0)
        case atStart => exact ⟨rfl, Lib.hid (Kp.refl _ _)⟩
        case round =>
          obtain ⟨rfl, HKL⟩ := hrel
          have c2 : wr.cell? ⟨m, 2, none⟩ = some (.slice none 0 0) := Blk.cell (Blk.kept HN5.out.blk HKL.out (fun x => x)) rfl
          have hmlt : m < wr.heap.size := lt_of_cell c2
          obtain ⟨i, hi0⟩ : ∃ i : Nat, i = 0 := ⟨0, rfl⟩
          have HRK : Hid (rank H Y.kept = i) := Lib.hid (by rw [hi0]; exact HRK0.out)
          have hi : i ≤ L.length := by omega
          obtain ⟨T, hT⟩ : ∃ T, L.take i = T := ⟨_, rfl⟩
          obtain ⟨D, hD⟩ : ∃ D, L.drop i = D := ⟨_, rfl⟩
          have hfin : T ++ [H] ++ D = (ins H (s.size : Int) Y.kept).map (·.1) := by
            rw [← hT, ← hD, ← HL.out]; exact (ins_names HY.out.ok.kept HYN.out HRK.out).symm
          have HFIN := Lib.hid hfin
          have htl : T.length = i := by rw [← hT, List.length_take]; omega
          have hdl : D.length = L.length - i := by rw [← hD, List.length_drop]
          have HTL := Lib.hid htl
          have HDL := Lib.hid hdl
          have HNR := Lib.hid (HN5.out.kept HKL.out)
          have HKR := Lib.hid (HK5.out.trans (KpTy.ofNo HKL.out))
          have HWW := Lib.hid ((HNR.out.disk.kp).size)
          have hLl : L.length ≤ 2000000 := by rw [← HL.out]; exact HY.out.len
          clear hfin htl hdl
          have hTn : T = [] := by rw [← hT, HL0.out]; simp
          have hDn : D = [] := by rw [← hD, HL0.out]; simp
          have HCUT : Hid (Rp.str.slice.R wr (fun k => k < wr.heap.size) [.slice none D.length 0] D) := Lib.hid (by rw [hDn]; exact str_none _ _)
          have HHEAD : Hid (Rp.str.slice.R wr (fun k => k < wr.heap.size) [.slice none T.length T.length] T) := Lib.hid (by rw [hTn]; exact str_none _ _)
          have HDL : Hid (D.length = 0) := Lib.hid (by rw [hDn]; rfl)
          have HTL : Hid (T.length = 0) := Lib.hid (by rw [hTn]; rfl)
          clear hTn hDn hT hD hi0 hi hLl
          go_wp2_with (at_builtin; first
            | (refine wpList_copy_lit (E := Rp.str) rfl wr (.tmp 100) (.tmp 106) 22 rfl 9 16 el_strD rfl _ _ (fun k => k < wr.heap.size) D ?hx HCUT.out Rp.str_one ?hby ?_
               case hx => (rw [HDL.out]; rfl)
               case hby => have := HDL.out; omega
               intro A7 c7 w7 hown7 hk7
               have HO7 := Lib.hid hown7
               have HK7 := Lib.hid hk7
               have c27 : w7.cell? ⟨m, 2, none⟩ = some (.slice (none) 0 0) := Blk.cell (Blk.kept HNR.out.blk hk7 (fun x => x)) rfl
               clear c2 hown7 hk7)
            | (refine wpList_append_full (E := Rp.str) rfl (w7.alloc (.cells #[.string H] 9)) (.tmp 115) (.tmp 117) 22 rfl 9 16 el_strD (fun k => k < w7.heap.size + 1) (none) T ?hx1 ?hl1 (some ⟨w7.heap.size, 0, none⟩) 1 [H] rfl ?hm1 Nat.one_pos Rp.str_one ?hcap1 ?hby1 ?_
               case hx1 => (rw [HTL.out]; rfl)
               case hm1 => exact str_lit1 w7 H (by rw [HHS.out]; decide) _ _ (by omega)
               case hl1 => exact Rp.str.slice.keptNo (Rp.str.slice.more HHEAD.out (fun k hk => Nat.lt_of_lt_of_le hk (Nat.le_succ_of_le HK7.out.size))) (HK7.out.alloc _)
               case hcap1 => have := HTL.out; simp [maxLen]; omega
               case hby1 => have := HTL.out; simp; omega
               intro A8 c8 w8 hown8 hk8
               have HO8 : Hid (Own Rp.str w8 (fun k => k < w7.heap.size) (w7.heap.size + 1) 9 (.slice A8 (T.length + 1) c8) (T ++ [H])) := Lib.hid (by have h := hown8.str_any (fun k => k < w7.heap.size); simpa using h)
               have HS8 : w7.heap.size + 1 ≤ w8.heap.size := by have := hk8.size; simpa using this
               have HK8 : Hid (Kp No w7 w8) := Lib.hid (((Kp.refl No w7).alloc _).trans' hk8)
               clear hown8 hk8)
            | (refine wpList_append_rp (E := Rp.str) rfl w8 (.tmp 118) (.tmp 119) 22 rfl (w7.heap.size + 1) 9 16 el_strD (fun k => k < w7.heap.size) (.slice A8 (T.length + 1) c8) (T ++ [H]) rfl HO8.out A7 c7 (fun k => k < w7.heap.size) D rfl ?hsrc9 Rp.str_one ?hcap9 ?hby9 HS8 (fun _ h => h) ?hsv9 ?_
               case hsrc9 => exact Rp.str.slice.keptNo ((HO7.out.str_any (fun k => k < w7.heap.size)).read (fun k hk => (HO7.out.lt k hk).2)) HK8.out
               case hcap9 => have := HTL.out; have := HDL.out; simp [maxLen]; omega
               case hby9 => have := HTL.out; have := HDL.out; simp; omega
               case hsv9 => (intro k hk; have := (HO8.out.lt k hk).1; omega)
               intro v9 w9 hown9 hg9 _
               obtain ⟨A9, c9, rfl⟩ := hown9.shape
               have hk9 : Kp No wr w9 := (HK7.out.trans' HK8.out).grown hg9 (fun k hk hlt => by have := (HO8.out.lt k hk).1; have := HK7.out.size; omega)
               have HO9 := Lib.hid hown9
               have HLT9 := Lib.hid hown9.lt
               have HK9 := Lib.hid hk9
               have c29 : w9.cell? ⟨m, 2, none⟩ = some _ := Blk.cell (Blk.kept HNR.out.blk hk9 (fun x => x)) rfl
               have f29 := Blk.fr (Blk.kept HNR.out.blk hk9 (fun x => x)) 2
               clear c27 hown9 hg9 hk9))
          go_ret2
          have ho9 := (HO9.out.str_any No).mono (Nat.le_trans HWW.out (Nat.le_trans HK7.out.size (Nat.le_succ _))) (fun _ h => h)
          rw [show T ++ [H] ++ D = (ins H (s.size : Int) Y.kept).map (·.1) from HFIN.out] at ho9
          obtain ⟨h1, h2⟩ := HNR.out.named HK9.out ho9
          have hlen : ((ins H (s.size : Int) Y.kept).map (·.1)).length = T.length + (D.length + 1) := by rw [← HFIN.out]; simp <;> omega
          have hlt9 := HLT9.out
          rw [show T ++ [H] ++ D = (ins H (s.size : Int) Y.kept).map (·.1) from HFIN.out, hlen] at hlt9
          have HLT9 := Lib.hid hlt9
          rw [hlen] at h1 h2
          rw [HGV.out]
          exact ⟨rfl, ⟨_, h1, .inr fun k hk => Nat.le_trans HKR.out.size (Nat.le_trans HK7.out.size (by have := (HLT9.out k hk).1; omega))⟩, HKR.out.trans h2⟩
      · have HOWN := Lib.hid hown
        have hLM : (L.length : Int) ≤ 2000000 := by have := HY.out.len; rw [hL] at this; omega
        clear hown hL hlk
        go_wp2_with fail
        go_loopw [10] (fun iv wr => ∃ i : Nat, i ≤ L.length ∧ iv = .int .i64 (i : Int) ∧ Hid (Kp No w8 wr) ∧ Hid (∀ j, j < i → ∀ p, Y.kept[j]? = some p → nlt p.1 H)) (fun iv _ => L.length - (intOf iv).toNat)
        case atStart => exact ⟨0, Nat.zero_le _, rfl, Lib.hid (Kp.refl _ _), Lib.hid (fun j hj => absurd hj (Nat.not_lt_zero _))⟩
        case round =>
          obtain ⟨i, hi, rfl, HKL, HA⟩ := hrel
          have c2 : wr.cell? ⟨m, 2, none⟩ = some (.slice (some ⟨g, 0, none⟩) L.length c) := Blk.cell (Blk.kept HN5.out.blk HKL.out (fun x => x)) rfl
          by_cases hlt : i < L.length
          · have hli : (i : Int) < (L.length : Int) := by omega
            obtain ⟨p, hp⟩ : ∃ p, Y.kept[i]? = some p := ⟨_, List.getElem?_eq_getElem (by rw [HLK.out]; exact hlt)⟩
            have hn : L[i]? = some p.1 := by rw [← HL.out]; unfold names; rw [List.getElem?_map, hp]; rfl
            obtain ⟨ad, hA, _, hcell, _⟩ := Rp.at_str (Rp.str.slice.keptNo HOWN.out.readFrom HKL.out) hn
            injection hA with hA
            subst hA
            rw [Addr.add_lit, Nat.zero_add] at hcell
            have HP := Lib.hid hp
            obtain ⟨pn, hpn⟩ : ∃ pn, p.1 = pn := ⟨_, rfl⟩
            rw [hpn] at hcell
            have HPN := Lib.hid hpn
            clear hp hn hpn
            have hmlt : m < wr.heap.size := lt_of_cell c2
            cases hb : Op.bytesLess pn.toList H.toList with
            | true =>
              go_wp2_with fail
              rw [less_nlt, decide_eq_true_eq] at hb
              go_roundw
              case rel =>
                refine ⟨i + 1, by omega, by go_num, HKL, Lib.hid fun j hj q' hq' => ?_⟩
                rcases Nat.lt_or_ge j i with h | h
                · exact HA.out j h q' hq'
                · obtain rfl : j = i := by omega
                  have := HP.out
                  rw [hq'] at this; injection this with this
                  rw [this, HPN.out]; exact hb
              case measure => simp [intOf]; omega
            | false =>
              have hrk : rank H Y.kept = i := by
                rw [less_nlt, decide_eq_false_iff_not] at hb
                exact rank_eq (by rw [HLK.out]; exact hi) HA.out (fun q' hq' => by have := HP.out; rw [hq'] at this; injection this with this; rw [this, HPN.out]; exact hb)
              have HRK := Lib.hid hrk
              clear hrk
              obtain ⟨T, hT⟩ : ∃ T, L.take i = T := ⟨_, rfl⟩
              obtain ⟨D, hD⟩ : ∃ D, L.drop i = D := ⟨_, rfl⟩
              have hfin : T ++ [H] ++ D = (ins H (s.size : Int) Y.kept).map (·.1) := by
                rw [← hT, ← hD, ← HL.out]; exact (ins_names HY.out.ok.kept HYN.out HRK.out).symm
              have HFIN := Lib.hid hfin
              have htl : T.length = i := by rw [← hT, List.length_take]; omega
              have hdl : D.length = L.length - i := by rw [← hD, List.length_drop]
              have HTL := Lib.hid htl
              have HDL := Lib.hid hdl
              have HNR := Lib.hid (HN5.out.kept HKL.out)
              have HKR := Lib.hid (HK5.out.trans (KpTy.ofNo HKL.out))
              have HWW := Lib.hid ((HNR.out.disk.kp).size)
              have hLl : L.length ≤ 2000000 := by rw [← HL.out]; exact HY.out.len
              clear hfin htl hdl
              have hcut := (show Own Rp.str wr No w0.heap.size 9 (.slice (some ⟨g, 0, none⟩) L.length c) L from by have := HNR.out.own; rw [show names { Y with d := addD s Y.d } = L from HL.out] at this; exact this).cutS (i := i) (by omega)
              have hhead := (show Own Rp.str wr No w0.heap.size 9 (.slice (some ⟨g, 0, none⟩) L.length c) L from by have := HNR.out.own; rw [show names { Y with d := addD s Y.d } = L from HL.out] at this; exact this).headS (i := i) (by omega)
              rw [hD] at hcut
              rw [hT] at hhead
              have HHEAD := Lib.hid hhead
              clear hhead hT hD
              rw [if_neg (by omega : ¬ c = i)] at hcut
              have HCUT := Lib.hid hcut
              clear hcut
              have hic : i ≤ c := by omega
              go_wp2_with (at_builtin; first
                | (refine wpList_copy_lit (E := Rp.str) rfl wr (.tmp 100) (.tmp 106) 22 rfl 9 16 el_strD rfl _ _ (fun k => k < wr.heap.size) D ?hx HCUT.out Rp.str_one ?hby ?_
                   case hx => (rw [HDL.out]; rfl)
                   case hby => have := HDL.out; omega
                   intro A7 c7 w7 hown7 hk7
                   have HO7 := Lib.hid hown7
                   have HK7 := Lib.hid hk7
                   have c27 : w7.cell? ⟨m, 2, none⟩ = some (.slice (some ⟨g, 0, none⟩) L.length c) := Blk.cell (Blk.kept HNR.out.blk hk7 (fun x => x)) rfl
                   clear c2 hown7 hk7)
                | (refine wpList_append_full (E := Rp.str) rfl (w7.alloc (.cells #[.string H] 9)) (.tmp 115) (.tmp 117) 22 rfl 9 16 el_strD (fun k => k < w7.heap.size + 1) (some ⟨g, 0, none⟩) T ?hx1 ?hl1 (some ⟨w7.heap.size, 0, none⟩) 1 [H] rfl ?hm1 Nat.one_pos Rp.str_one ?hcap1 ?hby1 ?_
                   case hx1 => (rw [HTL.out]; rfl)
                   case hm1 => exact str_lit1 w7 H (by rw [HHS.out]; decide) _ _ (by omega)
                   case hl1 => exact Rp.str.slice.keptNo (Rp.str.slice.more HHEAD.out (fun k hk => Nat.lt_of_lt_of_le hk (Nat.le_succ_of_le HK7.out.size))) (HK7.out.alloc _)
                   case hcap1 => have := HTL.out; simp [maxLen]; omega
                   case hby1 => have := HTL.out; simp; omega
                   intro A8 c8 w8 hown8 hk8
                   have HO8 : Hid (Own Rp.str w8 (fun k => k < w7.heap.size) (w7.heap.size + 1) 9 (.slice A8 (T.length + 1) c8) (T ++ [H])) := Lib.hid (by have h := hown8.str_any (fun k => k < w7.heap.size); simpa using h)
                   have HS8 : w7.heap.size + 1 ≤ w8.heap.size := by have := hk8.size; simpa using this
                   have HK8 : Hid (Kp No w7 w8) := Lib.hid (((Kp.refl No w7).alloc _).trans' hk8)
                   clear hown8 hk8)
                | (refine wpList_append_rp (E := Rp.str) rfl w8 (.tmp 118) (.tmp 119) 22 rfl (w7.heap.size + 1) 9 16 el_strD (fun k => k < w7.heap.size) (.slice A8 (T.length + 1) c8) (T ++ [H]) rfl HO8.out A7 c7 (fun k => k < w7.heap.size) D rfl ?hsrc9 Rp.str_one ?hcap9 ?hby9 HS8 (fun _ h => h) ?hsv9 ?_
                   case hsrc9 => exact Rp.str.slice.keptNo ((HO7.out.str_any (fun k => k < w7.heap.size)).read (fun k hk => (HO7.out.lt k hk).2)) HK8.out
                   case hcap9 => have := HTL.out; have := HDL.out; simp [maxLen]; omega
                   case hby9 => have := HTL.out; have := HDL.out; simp; omega
                   case hsv9 => (intro k hk; have := (HO8.out.lt k hk).1; omega)
                   intro v9 w9 hown9 hg9 _
                   obtain ⟨A9, c9, rfl⟩ := hown9.shape
                   have hk9 : Kp No wr w9 := (HK7.out.trans' HK8.out).grown hg9 (fun k hk hlt => by have := (HO8.out.lt k hk).1; have := HK7.out.size; omega)
                   have HO9 := Lib.hid hown9
                   have HLT9 := Lib.hid hown9.lt
                   have HK9 := Lib.hid hk9
                   have c29 : w9.cell? ⟨m, 2, none⟩ = some _ := Blk.cell (Blk.kept HNR.out.blk hk9 (fun x => x)) rfl
                   have f29 := Blk.fr (Blk.kept HNR.out.blk hk9 (fun x => x)) 2
                   clear c27 hown9 hg9 hk9))
              go_ret2
              have ho9 := (HO9.out.str_any No).mono (Nat.le_trans HWW.out (Nat.le_trans HK7.out.size (Nat.le_succ _))) (fun _ h => h)
              rw [show T ++ [H] ++ D = (ins H (s.size : Int) Y.kept).map (·.1) from HFIN.out] at ho9
              obtain ⟨h1, h2⟩ := HNR.out.named HK9.out ho9
              have hlen : ((ins H (s.size : Int) Y.kept).map (·.1)).length = T.length + (D.length + 1) := by rw [← HFIN.out]; simp <;> omega
              have hlt9 := HLT9.out
              rw [show T ++ [H] ++ D = (ins H (s.size : Int) Y.kept).map (·.1) from HFIN.out, hlen] at hlt9
              have HLT9 := Lib.hid hlt9
              rw [hlen] at h1 h2
              rw [HGV.out]
              exact ⟨rfl, ⟨_, h1, .inr fun k hk => Nat.le_trans HKR.out.size (Nat.le_trans HK7.out.size (by have := (HLT9.out k hk).1; omega))⟩, HKR.out.trans h2⟩
          · have hiL : i = L.length := by omega
            have hmlt : m < wr.heap.size := lt_of_cell c2
            have hrk : rank H Y.kept = i := rank_eq (by rw [HLK.out]; exact hi) HA.out (fun q' hq' => by have := (List.getElem?_eq_some_iff.1 hq').1; rw [HLK.out] at this; omega)
            have HRK := Lib.hid hrk
            have HIL := Lib.hid hiL
            clear hrk hiL
            obtain ⟨T, hT⟩ : ∃ T, L.take i = T := ⟨_, rfl⟩
            obtain ⟨D, hD⟩ : ∃ D, L.drop i = D := ⟨_, rfl⟩
            have hfin : T ++ [H] ++ D = (ins H (s.size : Int) Y.kept).map (·.1) := by
              rw [← hT, ← hD, ← HL.out]; exact (ins_names HY.out.ok.kept HYN.out HRK.out).symm
            have HFIN := Lib.hid hfin
            have htl : T.length = i := by rw [← hT, List.length_take]; omega
            have hdl : D.length = L.length - i := by rw [← hD, List.length_drop]
            have HTL := Lib.hid htl
            have HDL := Lib.hid hdl
            have HNR := Lib.hid (HN5.out.kept HKL.out)
            have HKR := Lib.hid (HK5.out.trans (KpTy.ofNo HKL.out))
            have HWW := Lib.hid ((HNR.out.disk.kp).size)
            have hLl : L.length ≤ 2000000 := by rw [← HL.out]; exact HY.out.len
            clear hfin htl hdl
            have hcut := (show Own Rp.str wr No w0.heap.size 9 (.slice (some ⟨g, 0, none⟩) L.length c) L from by have := HNR.out.own; rw [show names { Y with d := addD s Y.d } = L from HL.out] at this; exact this).cutS (i := i) (by omega)
            have hhead := (show Own Rp.str wr No w0.heap.size 9 (.slice (some ⟨g, 0, none⟩) L.length c) L from by have := HNR.out.own; rw [show names { Y with d := addD s Y.d } = L from HL.out] at this; exact this).headS (i := i) (by omega)
            rw [hD] at hcut
            rw [hT] at hhead
            have HHEAD := Lib.hid hhead
            clear hhead hT hD
            by_cases hci : c = i
            · rw [if_pos hci, show c - i = 0 by omega] at hcut
              have HDL : Hid (D.length = 0) := Lib.hid (by have := HDL.out; have := HIL.out; omega)
              have HCUT := Lib.hid hcut
              clear hcut
              have hci2 := hci.symm
              subst hci2
              go_wp2_with (at_builtin; first
                | (refine wpList_copy_lit (E := Rp.str) rfl wr (.tmp 100) (.tmp 106) 22 rfl 9 16 el_strD rfl _ _ (fun k => k < wr.heap.size) D ?hx HCUT.out Rp.str_one ?hby ?_
                   case hx => (rw [HDL.out]; rfl)
                   case hby => have := HDL.out; omega
                   intro A7 c7 w7 hown7 hk7
                   have HO7 := Lib.hid hown7
                   have HK7 := Lib.hid hk7
                   have c27 : w7.cell? ⟨m, 2, none⟩ = some (.slice (some ⟨g, 0, none⟩) L.length i) := Blk.cell (Blk.kept HNR.out.blk hk7 (fun x => x)) rfl
                   clear c2 hown7 hk7)
                | (refine wpList_append_full (E := Rp.str) rfl (w7.alloc (.cells #[.string H] 9)) (.tmp 115) (.tmp 117) 22 rfl 9 16 el_strD (fun k => k < w7.heap.size + 1) (some ⟨g, 0, none⟩) T ?hx1 ?hl1 (some ⟨w7.heap.size, 0, none⟩) 1 [H] rfl ?hm1 Nat.one_pos Rp.str_one ?hcap1 ?hby1 ?_
                   case hx1 => (rw [HTL.out]; rfl)
                   case hm1 => exact str_lit1 w7 H (by rw [HHS.out]; decide) _ _ (by omega)
                   case hl1 => exact Rp.str.slice.keptNo (Rp.str.slice.more HHEAD.out (fun k hk => Nat.lt_of_lt_of_le hk (Nat.le_succ_of_le HK7.out.size))) (HK7.out.alloc _)
                   case hcap1 => have := HTL.out; simp [maxLen]; omega
                   case hby1 => have := HTL.out; simp; omega
                   intro A8 c8 w8 hown8 hk8
                   have HO8 : Hid (Own Rp.str w8 (fun k => k < w7.heap.size) (w7.heap.size + 1) 9 (.slice A8 (T.length + 1) c8) (T ++ [H])) := Lib.hid (by have h := hown8.str_any (fun k => k < w7.heap.size); simpa using h)
                   have HS8 : w7.heap.size + 1 ≤ w8.heap.size := by have := hk8.size; simpa using this
                   have HK8 : Hid (Kp No w7 w8) := Lib.hid (((Kp.refl No w7).alloc _).trans' hk8)
                   clear hown8 hk8)
                | (refine wpList_append_rp (E := Rp.str) rfl w8 (.tmp 118) (.tmp 119) 22 rfl (w7.heap.size + 1) 9 16 el_strD (fun k => k < w7.heap.size) (.slice A8 (T.length + 1) c8) (T ++ [H]) rfl HO8.out A7 c7 (fun k => k < w7.heap.size) D rfl ?hsrc9 Rp.str_one ?hcap9 ?hby9 HS8 (fun _ h => h) ?hsv9 ?_
                   case hsrc9 => exact Rp.str.slice.keptNo ((HO7.out.str_any (fun k => k < w7.heap.size)).read (fun k hk => (HO7.out.lt k hk).2)) HK8.out
                   case hcap9 => have := HTL.out; have := HDL.out; simp [maxLen]; omega
                   case hby9 => have := HTL.out; have := HDL.out; simp; omega
                   case hsv9 => (intro k hk; have := (HO8.out.lt k hk).1; omega)
                   intro v9 w9 hown9 hg9 _
                   obtain ⟨A9, c9, rfl⟩ := hown9.shape
                   have hk9 : Kp No wr w9 := (HK7.out.trans' HK8.out).grown hg9 (fun k hk hlt => by have := (HO8.out.lt k hk).1; have := HK7.out.size; omega)
                   have HO9 := Lib.hid hown9
                   have HLT9 := Lib.hid hown9.lt
                   have HK9 := Lib.hid hk9
                   have c29 : w9.cell? ⟨m, 2, none⟩ = some _ := Blk.cell (Blk.kept HNR.out.blk hk9 (fun x => x)) rfl
                   have f29 := Blk.fr (Blk.kept HNR.out.blk hk9 (fun x => x)) 2
                   clear c27 hown9 hg9 hk9))
              go_ret2
              have ho9 := (HO9.out.str_any No).mono (Nat.le_trans HWW.out (Nat.le_trans HK7.out.size (Nat.le_succ _))) (fun _ h => h)
              rw [show T ++ [H] ++ D = (ins H (s.size : Int) Y.kept).map (·.1) from HFIN.out] at ho9
              obtain ⟨h1, h2⟩ := HNR.out.named HK9.out ho9
              have hlen : ((ins H (s.size : Int) Y.kept).map (·.1)).length = T.length + (D.length + 1) := by rw [← HFIN.out]; simp <;> omega
              have hlt9 := HLT9.out
              rw [show T ++ [H] ++ D = (ins H (s.size : Int) Y.kept).map (·.1) from HFIN.out, hlen] at hlt9
              have HLT9 := Lib.hid hlt9
              rw [hlen] at h1 h2
              rw [HGV.out]
              exact ⟨rfl, ⟨_, h1, .inr fun k hk => Nat.le_trans HKR.out.size (Nat.le_trans HK7.out.size (by have := (HLT9.out k hk).1; omega))⟩, HKR.out.trans h2⟩
            · rw [if_neg hci] at hcut
              have HCUT := Lib.hid hcut
              clear hcut
              have hic : i ≤ c := by omega
              go_wp2_with (at_builtin; first
                | (refine wpList_copy_lit (E := Rp.str) rfl wr (.tmp 100) (.tmp 106) 22 rfl 9 16 el_strD rfl _ _ (fun k => k < wr.heap.size) D ?hx HCUT.out Rp.str_one ?hby ?_
                   case hx => (rw [HDL.out]; rfl)
                   case hby => have := HDL.out; omega
                   intro A7 c7 w7 hown7 hk7
                   have HO7 := Lib.hid hown7
                   have HK7 := Lib.hid hk7
                   have c27 : w7.cell? ⟨m, 2, none⟩ = some (.slice (some ⟨g, 0, none⟩) L.length c) := Blk.cell (Blk.kept HNR.out.blk hk7 (fun x => x)) rfl
                   clear c2 hown7 hk7)
                | (refine wpList_append_full (E := Rp.str) rfl (w7.alloc (.cells #[.string H] 9)) (.tmp 115) (.tmp 117) 22 rfl 9 16 el_strD (fun k => k < w7.heap.size + 1) (some ⟨g, 0, none⟩) T ?hx1 ?hl1 (some ⟨w7.heap.size, 0, none⟩) 1 [H] rfl ?hm1 Nat.one_pos Rp.str_one ?hcap1 ?hby1 ?_
                   case hx1 => (rw [HTL.out]; rfl)
                   case hm1 => exact str_lit1 w7 H (by rw [HHS.out]; decide) _ _ (by omega)
                   case hl1 => exact Rp.str.slice.keptNo (Rp.str.slice.more HHEAD.out (fun k hk => Nat.lt_of_lt_of_le hk (Nat.le_succ_of_le HK7.out.size))) (HK7.out.alloc _)
                   case hcap1 => have := HTL.out; simp [maxLen]; omega
                   case hby1 => have := HTL.out; simp; omega
                   intro A8 c8 w8 hown8 hk8
                   have HO8 : Hid (Own Rp.str w8 (fun k => k < w7.heap.size) (w7.heap.size + 1) 9 (.slice A8 (T.length + 1) c8) (T ++ [H])) := Lib.hid (by have h := hown8.str_any (fun k => k < w7.heap.size); simpa using h)
                   have HS8 : w7.heap.size + 1 ≤ w8.heap.size := by have := hk8.size; simpa using this
                   have HK8 : Hid (Kp No w7 w8) := Lib.hid (((Kp.refl No w7).alloc _).trans' hk8)
                   clear hown8 hk8)
                | (refine wpList_append_rp (E := Rp.str) rfl w8 (.tmp 118) (.tmp 119) 22 rfl (w7.heap.size + 1) 9 16 el_strD (fun k => k < w7.heap.size) (.slice A8 (T.length + 1) c8) (T ++ [H]) rfl HO8.out A7 c7 (fun k => k < w7.heap.size) D rfl ?hsrc9 Rp.str_one ?hcap9 ?hby9 HS8 (fun _ h => h) ?hsv9 ?_
                   case hsrc9 => exact Rp.str.slice.keptNo ((HO7.out.str_any (fun k => k < w7.heap.size)).read (fun k hk => (HO7.out.lt k hk).2)) HK8.out
                   case hcap9 => have := HTL.out; have := HDL.out; simp [maxLen]; omega
                   case hby9 => have := HTL.out; have := HDL.out; simp; omega
                   case hsv9 => (intro k hk; have := (HO8.out.lt k hk).1; omega)
                   intro v9 w9 hown9 hg9 _
                   obtain ⟨A9, c9, rfl⟩ := hown9.shape
                   have hk9 : Kp No wr w9 := (HK7.out.trans' HK8.out).grown hg9 (fun k hk hlt => by have := (HO8.out.lt k hk).1; have := HK7.out.size; omega)
                   have HO9 := Lib.hid hown9
                   have HLT9 := Lib.hid hown9.lt
                   have HK9 := Lib.hid hk9
                   have c29 : w9.cell? ⟨m, 2, none⟩ = some _ := Blk.cell (Blk.kept HNR.out.blk hk9 (fun x => x)) rfl
                   have f29 := Blk.fr (Blk.kept HNR.out.blk hk9 (fun x => x)) 2
                   clear c27 hown9 hg9 hk9))
              go_ret2
              have ho9 := (HO9.out.str_any No).mono (Nat.le_trans HWW.out (Nat.le_trans HK7.out.size (Nat.le_succ _))) (fun _ h => h)
              rw [show T ++ [H] ++ D = (ins H (s.size : Int) Y.kept).map (·.1) from HFIN.out] at ho9
              obtain ⟨h1, h2⟩ := HNR.out.named HK9.out ho9
              have hlen : ((ins H (s.size : Int) Y.kept).map (·.1)).length = T.length + (D.length + 1) := by rw [← HFIN.out]; simp <;> omega
              have hlt9 := HLT9.out
              rw [show T ++ [H] ++ D = (ins H (s.size : Int) Y.kept).map (·.1) from HFIN.out, hlen] at hlt9
              have HLT9 := Lib.hid hlt9
              rw [hlen] at h1 h2
              rw [HGV.out]
              exact ⟨rfl, ⟨_, h1, .inr fun k hk => Nat.le_trans HKR.out.size (Nat.le_trans HK7.out.size (by have := (HLT9.out k hk).1; omega))⟩, HKR.out.trans h2⟩
    | true =>
      rw [hK] at hkeeps hG
      simp only [if_true] at hG
      obtain ⟨k, hk⟩ := keepsV_some hK
      obtain ⟨hrem, hdrop, hYl, hYn⟩ := hX.dropped hk
      rw [hdrop] at hG
      simp only [if_true] at hG
      have HG := Lib.hid hG
      have HKE := Lib.hid hkeeps
      have hrm := fun w1 (hk : Kp No w w1) => m_remove (fileN H) w1 (hn.disk.kept hk) (by omega) (fileN_le H (by omega))
      rw [hrem] at hrm
      have HRM := Lib.hid hrm
      have hfi := fun w1 => e_file H (by omega) w1
      have HFI := Lib.hid hfi
      have HYN := Lib.hid hYn
      have HYL := Lib.hid hYl
      have HYM : Hid ((lessV H X).kept.length < 1000000) := Lib.hid (Nat.lt_of_le_of_lt (mdel_length _ _) hm)
      have HYF : Hid ((lessV H X).d.files.length ≤ 900000) := Lib.hid (Nat.le_trans (mdel_length _ _) hfl)
      clear hn hX hG hrb hsum hH hHs hhas hkeeps hA hK hm hfl hk hrem hdrop hrm hfi hYn hYl
      go_enter Tryz.func11, Tryz.ntmps11
      go_wp2_with fail
      refine HSUM.out.mono ?_
      rintro e w1 ⟨rfl, hk⟩
      have HK1 := Lib.hid hk
      clear hk
      go_wp2_with fail
      refine (HHAS.out w1 HK1.out).mono ?_
      rintro e w2 ⟨rfl, hk⟩
      have HK2 := Lib.hid (HK1.out.trans' hk)
      clear hk
      go_wp2_with fail
      refine (HKE.out w2 HK2.out).mono ?_
      rintro e w4 ⟨rfl, hk⟩
      have HK4 := Lib.hid (HK2.out.trans' hk)
      have c4 : w4.cell? ⟨m, 0, none⟩ = some (.pointer (some ⟨r, 0, none⟩)) := Blk.cell (Blk.kept HN.out.blk HK4.out (fun x => x)) rfl
      clear hk c0 d2
      go_wp2_with fail
      refine Reg.wp_region_plan [⟨0, false, []⟩, ⟨1, false, []⟩, ⟨2, false, []⟩, ⟨3, false, []⟩, ⟨4, false, []⟩, ⟨5, true, [1, 2, 3]⟩, ⟨6, true, []⟩, ⟨7, false, []⟩] rfl (by kernel_rfl) ?_
      repeat (first | (refine Reg.look rfl rfl rfl (by go_simp; rfl) rfl ?_; go_simp) | (refine Reg.skip rfl rfl rfl ?_; go_simp))
      refine Reg.act rfl ?_
      go_wp2_with fail
      refine (HFI.out _).mono ?_
      rintro e w5 ⟨rfl, hk⟩
      have hk5 : Kp No w w5 := (HK4.out.trans' ((Kp.refl No w4).drew)).trans' hk
      have HK5 := Lib.hid hk5
      have c5 : w5.cell? ⟨m, 0, none⟩ = some (.pointer (some ⟨r, 0, none⟩)) := Blk.cell (Blk.kept HN.out.blk hk5 (fun x => x)) rfl
      clear hk hk5
      go_wp2_with fail
      (refine ⟨?anew, ?_⟩; case anew => ((repeat (refine Reg.anew_cons rfl rfl (fun _ => by go_simp) ?_)); exact Reg.anew_nil))
      repeat (first | (refine Reg.look rfl rfl rfl (by go_simp; rfl) rfl ?_; go_simp) | (refine Reg.skip rfl rfl rfl ?_; go_simp))
      refine Reg.act rfl ?_
      go_wp2_with fail
      refine (HRM.out w5 HK5.out).mono ?_
      rintro e w6 ⟨rfl, hd6, hk6⟩
      have hv6 := (HN.out.kept HK5.out).turned hd6 hk6
      have HV6 := Lib.hid (show RVn w0 w6 m r kv { X with d := (lessV H X).d } from hv6)
      have HW6 := Lib.hid (Nat.le_trans HK5.out.size hk6.size)
      have HK6 := Lib.hid ((KpTy.ofNo HK5.out).trans (hk6.mono fun _ => RD.rt))
      clear hd6 hk6 hv6
      go_wp2_with fail
      (refine ⟨?anew, ?_⟩; case anew => ((repeat (refine Reg.anew_cons rfl rfl (fun _ => by go_simp) ?_)); exact Reg.anew_nil))
      repeat (first | (refine Reg.look rfl rfl rfl (by go_simp; rfl) rfl ?_; go_simp) | (refine Reg.skip rfl rfl rfl ?_; go_simp))
      (refine Reg.done ?_; simp only [Exit.then])
      go_wp2_with fail
      refine (e_lose H w6 HV6.out HX.out.nodup HX.out.len HX.out.sizes).mono ?_
      rintro e w7 ⟨rfl, ⟨kvY, hv7, hf7⟩, hk7⟩
      have HVY : Hid (RVn w0 w7 m r kvY (lessV H X)) := Lib.hid hv7
      have HFR : Hid (Fr w kv kvY) := Lib.hid (.inr fun k hk => Nat.le_trans HW6.out (hf7 k hk))
      have HKY := Lib.hid (HK6.out.trans hk7)
      have HY := HYL
      clear hv7 hk7 hf7 HW6 HK1 HK2 HK4 HK5 HV6 HK6 HHAS HKE HSUM HN HV HRM HFI c4 c5 HX HYL
      obtain ⟨Y, hYe⟩ : ∃ Y, lessV H X = Y := ⟨_, rfl⟩
      rw [hYe] at HVY HY HYN HYM HYF HG
      clear hYe
      have hny := HVY.out
      have HNY := Lib.hid hny
      have c1 : (w7).cell? ⟨m, 1, none⟩ = some (.int .i64 Y.quota) := Blk.cell hny.blk rfl
      obtain ⟨N, hN⟩ : ∃ N, bytesV Y = N := ⟨_, rfl⟩
      have hN0 : 0 ≤ N ∧ N ≤ 128000000 := by
        have hb : N = sumV Y.kept := by rw [← hN]; unfold bytesV; rw [HY.out.off]; rfl
        have h1 := sumV_le (l := Y.kept) (fun q hq => HY.out.ok.each q hq)
        have h2 := HY.out.ok.many
        omega
      have hbt := fun w1 (hk : Kp No (w7) w1) => e_bytes w1 ⟨_, HVY.out.kept hk⟩ HY.out
      rw [hN] at hbt
      have HBT := Lib.hid hbt
      have hcase := HY.out.write s (by omega) (by omega) (by rw [HH.out]; exact HYN.out) (by have := HYM.out; omega)
      rw [HH.out, hN] at hcase
      have hap := HY.out.append (c := s) (by omega) (by rw [HH.out]; exact HYN.out)
      have hsy := HY.out.sync (c := s)
      rw [HH.out] at hap hsy
      have HCASE := Lib.hid hcase
      have HAP := Lib.hid hap
      have HSY := Lib.hid hsy
      obtain ⟨q, hq⟩ : ∃ q, Y.quota = q := ⟨_, rfl⟩
      have hq0 := HY.out.ok.quota
      rw [hq] at c1 hq0
      have HQ := Lib.hid hq
      clear hny hN hbt hcase hap hsy hq
      go_wp2_with fail
      refine Reg.wp_region_plan [⟨0, false, []⟩, ⟨2, false, []⟩, ⟨3, false, []⟩, ⟨5, false, []⟩, ⟨6, false, []⟩, ⟨7, false, []⟩, ⟨8, false, []⟩, ⟨1, true, [3, 6, 7, 8]⟩, ⟨4, false, []⟩, ⟨9, false, []⟩] rfl (by kernel_rfl) ?_
      repeat (first | (refine Reg.look rfl rfl rfl (by go_simp; rfl) rfl ?_; go_simp) | (refine Reg.skip rfl rfl rfl ?_; go_simp))
      refine Reg.act rfl ?_
      go_wp2_with fail
      refine (HBT.out _ (Kp.refl _ _).drew).mono ?_
      rintro e w3 ⟨rfl, hk3⟩
      have hk3 : Kp No (w7) w3 := ((Kp.refl No (w7)).drew).trans' hk3
      have HK3 := Lib.hid hk3
      have c1' : w3.cell? ⟨m, 1, none⟩ = some (.int .i64 q) := by have h := Blk.cell (Blk.kept HNY.out.blk hk3 (fun x => x)) (i := 1) rfl; rw [HQ.out] at h; exact h
      have c0' : w3.cell? ⟨m, 0, none⟩ = some (.pointer (some ⟨r, 0, none⟩)) := Blk.cell (Blk.kept HNY.out.blk hk3 (fun x => x)) rfl
      have hwr : IntKind.i64.wrap (N + (s.size : Int)) = N + (s.size : Int) := wrap_i64 (by omega) (by omega)
      clear hk3 HBT c1
      go_wp2_with fail
      (refine ⟨?anew, ?_⟩; case anew => ((repeat (refine Reg.anew_cons rfl rfl (fun _ => by go_simp) ?_)); exact Reg.anew_nil))
      repeat (first | (refine Reg.look rfl rfl rfl (by go_simp; rfl) rfl ?_; go_simp) | (refine Reg.skip rfl rfl rfl ?_; go_simp))
      (refine Reg.done ?_; simp only [Exit.then])
      by_cases hqN : q < N + (s.size : Int)
      · have hg : writeV s H Y = ((.empty, 102), Y) := by
          rcases HCASE.out with h | h
          · exact h.2
          · rw [HQ.out] at h; exact absurd hqN (Int.not_lt.2 h.1)
        have HGV := Lib.hid (HG.out.symm.trans hg)
        have HVF := Lib.hid (show RVn w0 w3 m r kvY Y from HVY.out.kept HK3.out)
        have HKF := Lib.hid (HKY.out.trans (KpTy.ofNo HK3.out))
        clear hg HCASE
        go_wp2_with fail
        go_ret2
        rw [HGV.out]
        exact ⟨rfl, ⟨_, HVF.out, HFR.out⟩, HKF.out⟩
      have hg : writeV s H Y = ((H, 0), { Y with d := addD s Y.d, kept := ins H (s.size : Int) Y.kept }) := by
        rcases HCASE.out with h | h
        · rw [HQ.out] at h; exact absurd h.1 hqN
        · exact h.2.1
      have HGV := Lib.hid (HG.out.symm.trans hg)
      have hfi := fun w1 => e_file H (by rw [HHS.out]; decide) w1
      have HFI := Lib.hid hfi
      have hapd := fun w1 (hk : Kp No w3 w1) => m_append (fileN H) s w1 (HNY.out.disk.kept (HK3.out.trans' hk)) (Nat.le_trans HYF.out (by decide)) (fileN_le H (by rw [HHS.out]; decide))
      rw [HAP.out] at hapd
      have HAPD := Lib.hid hapd
      clear hg HCASE hfi hapd
      go_wp2_with fail
      refine Reg.wp_region_plan [⟨0, false, []⟩, ⟨1, false, []⟩, ⟨2, false, []⟩, ⟨3, false, []⟩, ⟨4, false, []⟩, ⟨6, false, []⟩, ⟨5, true, [1, 2, 3]⟩, ⟨7, true, []⟩, ⟨8, false, []⟩] rfl (by kernel_rfl) ?_
      repeat (first | (refine Reg.look rfl rfl rfl (by go_simp; rfl) rfl ?_; go_simp) | (refine Reg.skip rfl rfl rfl ?_; go_simp))
      refine Reg.act rfl ?_
      go_wp2_with fail
      refine (HFI.out _).mono ?_
      rintro e w5 ⟨rfl, hk⟩
      have hk5 : Kp No w3 w5 := ((Kp.refl No w3).drew).trans' hk
      have HKA := Lib.hid hk5
      have c0a : w5.cell? ⟨m, 0, none⟩ = some (.pointer (some ⟨r, 0, none⟩)) := Blk.cell (Blk.kept HNY.out.blk (HK3.out.trans' hk5) (fun x => x)) rfl
      clear hk hk5
      go_wp2_with fail
      (refine ⟨?anew, ?_⟩; case anew => ((repeat (refine Reg.anew_cons rfl rfl (fun _ => by go_simp) ?_)); exact Reg.anew_nil))
      repeat (first | (refine Reg.look rfl rfl rfl (by go_simp; rfl) rfl ?_; go_simp) | (refine Reg.skip rfl rfl rfl ?_; go_simp))
      refine Reg.act rfl ?_
      go_wp2_with fail
      refine (HAPD.out w5 HKA.out).mono ?_
      rintro e w6 ⟨rfl, hd6, hk6⟩
      have hv6 := (HNY.out.kept (HK3.out.trans' HKA.out)).turned hd6 hk6
      have HN6 := Lib.hid hv6
      have HK6 := Lib.hid ((HKY.out.trans (KpTy.ofNo (HK3.out.trans' HKA.out))).trans (hk6.mono fun _ => RD.rt))
      have c0b : w6.cell? ⟨m, 0, none⟩ = some (.pointer (some ⟨r, 0, none⟩)) := Blk.cell hv6.blk rfl
      have hsyd := fun w1 (hk : Kp No w6 w1) => m_sync (fileN H) w1 (hv6.disk.kept hk) (fileN_le H (by rw [HHS.out]; decide))
      simp only [HSY.out] at hsyd
      have HSYD := Lib.hid hsyd
      clear hd6 hk6 hv6 hsyd c0a c0' c1'
      go_wp2_with fail
      (refine ⟨?anew, ?_⟩; case anew => ((repeat (refine Reg.anew_cons rfl rfl (fun _ => by go_simp) ?_)); exact Reg.anew_nil))
      repeat (first | (refine Reg.look rfl rfl rfl (by go_simp; rfl) rfl ?_; go_simp) | (refine Reg.skip rfl rfl rfl ?_; go_simp))
      (refine Reg.done ?_; simp only [Exit.then])
      go_wp2_with fail
      refine Reg.wp_region_plan [⟨0, false, []⟩, ⟨1, false, []⟩, ⟨2, false, []⟩, ⟨3, false, []⟩, ⟨4, false, []⟩, ⟨5, true, [1, 2, 3]⟩, ⟨6, true, []⟩, ⟨7, false, []⟩] rfl (by kernel_rfl) ?_
      repeat (first | (refine Reg.look rfl rfl rfl (by go_simp; rfl) rfl ?_; go_simp) | (refine Reg.skip rfl rfl rfl ?_; go_simp))
      refine Reg.act rfl ?_
      go_wp2_with fail
      refine (HFI.out _).mono ?_
      rintro e w7 ⟨rfl, hk⟩
      have hk7 : Kp No w6 w7 := ((Kp.refl No w6).drew).trans' hk
      have HKB := Lib.hid hk7
      have c0c : w7.cell? ⟨m, 0, none⟩ = some (.pointer (some ⟨r, 0, none⟩)) := Blk.cell (Blk.kept HN6.out.blk hk7 (fun x => x)) rfl
      clear hk hk7
      go_wp2_with fail
      (refine ⟨?anew, ?_⟩; case anew => ((repeat (refine Reg.anew_cons rfl rfl (fun _ => by go_simp) ?_)); exact Reg.anew_nil))
      repeat (first | (refine Reg.look rfl rfl rfl (by go_simp; rfl) rfl ?_; go_simp) | (refine Reg.skip rfl rfl rfl ?_; go_simp))
      refine Reg.act rfl ?_
      go_wp2_with fail
      refine (HSYD.out w7 HKB.out).mono ?_
      rintro e w8 ⟨rfl, hd8, hk8⟩
      have HN5 : Hid (RVn w0 w8 m r kvY { Y with d := addD s Y.d }) := Lib.hid ((HN6.out.kept HKB.out).turned hd8 hk8)
      have HK5 := Lib.hid ((HK6.out.trans (KpTy.ofNo HKB.out)).trans (hk8.mono fun _ => RD.rt))
      clear hd8 hk8 c0b c0c HN6 HK6 HKA HKB HSYD HAPD HFI
      go_wp2_with fail
      (refine ⟨?anew, ?_⟩; case anew => ((repeat (refine Reg.anew_cons rfl rfl (fun _ => by go_simp) ?_)); exact Reg.anew_nil))
      repeat (first | (refine Reg.look rfl rfl rfl (by go_simp; rfl) rfl ?_; go_simp) | (refine Reg.skip rfl rfl rfl ?_; go_simp))
      (refine Reg.done ?_; simp only [Exit.then])
      obtain ⟨L, hL⟩ : ∃ L, names Y = L := ⟨_, rfl⟩
      have HL := Lib.hid hL
      have hown := HN5.out.own
      rw [show names { Y with d := addD s Y.d } = L from hL] at hown
      have hlk : Y.kept.length = L.length := by rw [← hL]; unfold names; rw [List.length_map]
      have HLK := Lib.hid hlk
      rcases hown.shp with ⟨rfl, hL0⟩ | ⟨g, c, rfl, hlc⟩
      · have hk0 : Y.kept = [] := List.eq_nil_of_length_eq_zero (by rw [hlk, hL0]; rfl)
        have hrk0 : rank H Y.kept = 0 := by rw [hk0]; rfl
        have HRK0 := Lib.hid hrk0
        have HL0 := Lib.hid hL0
        clear hown hL hlk hk0 hrk0 hL0
        go_wp2_with fail
        go_loopw [10] (fun iv wr => iv = .int .i64 0 ∧ Hid (Kp No w8 wr)) (fun _ _ => 0)
        case atStart => exact ⟨rfl, Lib.hid (Kp.refl _ _)⟩
        case round =>
          obtain ⟨rfl, HKL⟩ := hrel
          have c2 : wr.cell? ⟨m, 2, none⟩ = some (.slice none 0 0) := Blk.cell (Blk.kept HN5.out.blk HKL.out (fun x => x)) rfl
          have hmlt : m < wr.heap.size := lt_of_cell c2
          obtain ⟨i, hi0⟩ : ∃ i : Nat, i = 0 := ⟨0, rfl⟩
          have HRK : Hid (rank H Y.kept = i) := Lib.hid (by rw [hi0]; exact HRK0.out)
          have hi : i ≤ L.length := by omega
          obtain ⟨T, hT⟩ : ∃ T, L.take i = T := ⟨_, rfl⟩
          obtain ⟨D, hD⟩ : ∃ D, L.drop i = D := ⟨_, rfl⟩
          have hfin : T ++ [H] ++ D = (ins H (s.size : Int) Y.kept).map (·.1) := by
            rw [← hT, ← hD, ← HL.out]; exact (ins_names HY.out.ok.kept HYN.out HRK.out).symm
          have HFIN := Lib.hid hfin
          have htl : T.length = i := by rw [← hT, List.length_take]; omega
          have hdl : D.length = L.length - i := by rw [← hD, List.length_drop]
          have HTL := Lib.hid htl
          have HDL := Lib.hid hdl
          have HNR := Lib.hid (HN5.out.kept HKL.out)
          have HKR := Lib.hid (HK5.out.trans (KpTy.ofNo HKL.out))
          have HWW := Lib.hid ((HNR.out.disk.kp).size)
          have hLl : L.length ≤ 2000000 := by rw [← HL.out]; exact HY.out.len
          clear hfin htl hdl
          have hTn : T = [] := by rw [← hT, HL0.out]; simp
          have hDn : D = [] := by rw [← hD, HL0.out]; simp
          have HCUT : Hid (Rp.str.slice.R wr (fun k => k < wr.heap.size) [.slice none D.length 0] D) := Lib.hid (by rw [hDn]; exact str_none _ _)
          have HHEAD : Hid (Rp.str.slice.R wr (fun k => k < wr.heap.size) [.slice none T.length T.length] T) := Lib.hid (by rw [hTn]; exact str_none _ _)
          have HDL : Hid (D.length = 0) := Lib.hid (by rw [hDn]; rfl)
          have HTL : Hid (T.length = 0) := Lib.hid (by rw [hTn]; rfl)
          clear hTn hDn hT hD hi0 hi hLl
          go_wp2_with (at_builtin; first
            | (refine wpList_copy_lit (E := Rp.str) rfl wr (.tmp 100) (.tmp 106) 22 rfl 9 16 el_strD rfl _ _ (fun k => k < wr.heap.size) D ?hx HCUT.out Rp.str_one ?hby ?_
               case hx => (rw [HDL.out]; rfl)
               case hby => have := HDL.out; omega
               intro A7 c7 w7 hown7 hk7
               have HO7 := Lib.hid hown7
               have HK7 := Lib.hid hk7
               have c27 : w7.cell? ⟨m, 2, none⟩ = some (.slice (none) 0 0) := Blk.cell (Blk.kept HNR.out.blk hk7 (fun x => x)) rfl
               clear c2 hown7 hk7)
            | (refine wpList_append_full (E := Rp.str) rfl (w7.alloc (.cells #[.string H] 9)) (.tmp 115) (.tmp 117) 22 rfl 9 16 el_strD (fun k => k < w7.heap.size + 1) (none) T ?hx1 ?hl1 (some ⟨w7.heap.size, 0, none⟩) 1 [H] rfl ?hm1 Nat.one_pos Rp.str_one ?hcap1 ?hby1 ?_
               case hx1 => (rw [HTL.out]; rfl)
               case hm1 => exact str_lit1 w7 H (by rw [HHS.out]; decide) _ _ (by omega)
               case hl1 => exact Rp.str.slice.keptNo (Rp.str.slice.more HHEAD.out (fun k hk => Nat.lt_of_lt_of_le hk (Nat.le_succ_of_le HK7.out.size))) (HK7.out.alloc _)
               case hcap1 => have := HTL.out; simp [maxLen]; omega
               case hby1 => have := HTL.out; simp; omega
               intro A8 c8 w8 hown8 hk8
               have HO8 : Hid (Own Rp.str w8 (fun k => k < w7.heap.size) (w7.heap.size + 1) 9 (.slice A8 (T.length + 1) c8) (T ++ [H])) := Lib.hid (by have h := hown8.str_any (fun k => k < w7.heap.size); simpa using h)
               have HS8 : w7.heap.size + 1 ≤ w8.heap.size := by have := hk8.size; simpa using this
               have HK8 : Hid (Kp No w7 w8) := Lib.hid (((Kp.refl No w7).alloc _).trans' hk8)
               clear hown8 hk8)
            | (refine wpList_append_rp (E := Rp.str) rfl w8 (.tmp 118) (.tmp 119) 22 rfl (w7.heap.size + 1) 9 16 el_strD (fun k => k < w7.heap.size) (.slice A8 (T.length + 1) c8) (T ++ [H]) rfl HO8.out A7 c7 (fun k => k < w7.heap.size) D rfl ?hsrc9 Rp.str_one ?hcap9 ?hby9 HS8 (fun _ h => h) ?hsv9 ?_
               case hsrc9 => exact Rp.str.slice.keptNo ((HO7.out.str_any (fun k => k < w7.heap.size)).read (fun k hk => (HO7.out.lt k hk).2)) HK8.out
               case hcap9 => have := HTL.out; have := HDL.out; simp [maxLen]; omega
               case hby9 => have := HTL.out; have := HDL.out; simp; omega
               case hsv9 => (intro k hk; have := (HO8.out.lt k hk).1; omega)
               intro v9 w9 hown9 hg9 _
               obtain ⟨A9, c9, rfl⟩ := hown9.shape
               have hk9 : Kp No wr w9 := (HK7.out.trans' HK8.out).grown hg9 (fun k hk hlt => by have := (HO8.out.lt k hk).1; have := HK7.out.size; omega)
               have HO9 := Lib.hid hown9
               have HLT9 := Lib.hid hown9.lt
               have HK9 := Lib.hid hk9
               have c29 : w9.cell? ⟨m, 2, none⟩ = some _ := Blk.cell (Blk.kept HNR.out.blk hk9 (fun x => x)) rfl
               have f29 := Blk.fr (Blk.kept HNR.out.blk hk9 (fun x => x)) 2
               clear c27 hown9 hg9 hk9))
          go_ret2
          have ho9 := (HO9.out.str_any No).mono (Nat.le_trans HWW.out (Nat.le_trans HK7.out.size (Nat.le_succ _))) (fun _ h => h)
          rw [show T ++ [H] ++ D = (ins H (s.size : Int) Y.kept).map (·.1) from HFIN.out] at ho9
          obtain ⟨h1, h2⟩ := HNR.out.named HK9.out ho9
          have hlen : ((ins H (s.size : Int) Y.kept).map (·.1)).length = T.length + (D.length + 1) := by rw [← HFIN.out]; simp <;> omega
          have hlt9 := HLT9.out
          rw [show T ++ [H] ++ D = (ins H (s.size : Int) Y.kept).map (·.1) from HFIN.out, hlen] at hlt9
          have HLT9 := Lib.hid hlt9
          rw [hlen] at h1 h2
          rw [HGV.out]
          exact ⟨rfl, ⟨_, h1, .inr fun k hk => Nat.le_trans HKR.out.size (Nat.le_trans HK7.out.size (by have := (HLT9.out k hk).1; omega))⟩, HKR.out.trans h2⟩
      · have HOWN := Lib.hid hown
        have hLM : (L.length : Int) ≤ 2000000 := by have := HY.out.len; rw [hL] at this; omega
        clear hown hL hlk
        go_wp2_with fail
        go_loopw [10] (fun iv wr => ∃ i : Nat, i ≤ L.length ∧ iv = .int .i64 (i : Int) ∧ Hid (Kp No w8 wr) ∧ Hid (∀ j, j < i → ∀ p, Y.kept[j]? = some p → nlt p.1 H)) (fun iv _ => L.length - (intOf iv).toNat)
        case atStart => exact ⟨0, Nat.zero_le _, rfl, Lib.hid (Kp.refl _ _), Lib.hid (fun j hj => absurd hj (Nat.not_lt_zero _))⟩
        case round =>
          obtain ⟨i, hi, rfl, HKL, HA⟩ := hrel
          have c2 : wr.cell? ⟨m, 2, none⟩ = some (.slice (some ⟨g, 0, none⟩) L.length c) := Blk.cell (Blk.kept HN5.out.blk HKL.out (fun x => x)) rfl
          by_cases hlt : i < L.length
          · have hli : (i : Int) < (L.length : Int) := by omega
            obtain ⟨p, hp⟩ : ∃ p, Y.kept[i]? = some p := ⟨_, List.getElem?_eq_getElem (by rw [HLK.out]; exact hlt)⟩
            have hn : L[i]? = some p.1 := by rw [← HL.out]; unfold names; rw [List.getElem?_map, hp]; rfl
            obtain ⟨ad, hA, _, hcell, _⟩ := Rp.at_str (Rp.str.slice.keptNo HOWN.out.readFrom HKL.out) hn
            injection hA with hA
            subst hA
            rw [Addr.add_lit, Nat.zero_add] at hcell
            have HP := Lib.hid hp
            obtain ⟨pn, hpn⟩ : ∃ pn, p.1 = pn := ⟨_, rfl⟩
            rw [hpn] at hcell
            have HPN := Lib.hid hpn
            clear hp hn hpn
            have hmlt : m < wr.heap.size := lt_of_cell c2
            cases hb : Op.bytesLess pn.toList H.toList with
            | true =>
              go_wp2_with fail
              rw [less_nlt, decide_eq_true_eq] at hb
              go_roundw
              case rel =>
                refine ⟨i + 1, by omega, by go_num, HKL, Lib.hid fun j hj q' hq' => ?_⟩
                rcases Nat.lt_or_ge j i with h | h
                · exact HA.out j h q' hq'
                · obtain rfl : j = i := by omega
                  have := HP.out
                  rw [hq'] at this; injection this with this
                  rw [this, HPN.out]; exact hb
              case measure => simp [intOf]; omega
            | false =>
              have hrk : rank H Y.kept = i := by
                rw [less_nlt, decide_eq_false_iff_not] at hb
                exact rank_eq (by rw [HLK.out]; exact hi) HA.out (fun q' hq' => by have := HP.out; rw [hq'] at this; injection this with this; rw [this, HPN.out]; exact hb)
              have HRK := Lib.hid hrk
              clear hrk
              obtain ⟨T, hT⟩ : ∃ T, L.take i = T := ⟨_, rfl⟩
              obtain ⟨D, hD⟩ : ∃ D, L.drop i = D := ⟨_, rfl⟩
              have hfin : T ++ [H] ++ D = (ins H (s.size : Int) Y.kept).map (·.1) := by
                rw [← hT, ← hD, ← HL.out]; exact (ins_names HY.out.ok.kept HYN.out HRK.out).symm
              have HFIN := Lib.hid hfin
              have htl : T.length = i := by rw [← hT, List.length_take]; omega
              have hdl : D.length = L.length - i := by rw [← hD, List.length_drop]
              have HTL := Lib.hid htl
              have HDL := Lib.hid hdl
              have HNR := Lib.hid (HN5.out.kept HKL.out)
              have HKR := Lib.hid (HK5.out.trans (KpTy.ofNo HKL.out))
              have HWW := Lib.hid ((HNR.out.disk.kp).size)
              have hLl : L.length ≤ 2000000 := by rw [← HL.out]; exact HY.out.len
              clear hfin htl hdl
              have hcut := (show Own Rp.str wr No w0.heap.size 9 (.slice (some ⟨g, 0, none⟩) L.length c) L from by have := HNR.out.own; rw [show names { Y with d := addD s Y.d } = L from HL.out] at this; exact this).cutS (i := i) (by omega)
              have hhead := (show Own Rp.str wr No w0.heap.size 9 (.slice (some ⟨g, 0, none⟩) L.length c) L from by have := HNR.out.own; rw [show names { Y with d := addD s Y.d } = L from HL.out] at this; exact this).headS (i := i) (by omega)
              rw [hD] at hcut
              rw [hT] at hhead
              have HHEAD := Lib.hid hhead
              clear hhead hT hD
              rw [if_neg (by omega : ¬ c = i)] at hcut
              have HCUT := Lib.hid hcut
              clear hcut
              have hic : i ≤ c := by omega
              go_wp2_with (at_builtin; first
                | (refine wpList_copy_lit (E := Rp.str) rfl wr (.tmp 100) (.tmp 106) 22 rfl 9 16 el_strD rfl _ _ (fun k => k < wr.heap.size) D ?hx HCUT.out Rp.str_one ?hby ?_
                   case hx => (rw [HDL.out]; rfl)
                   case hby => have := HDL.out; omega
                   intro A7 c7 w7 hown7 hk7
                   have HO7 := Lib.hid hown7
                   have HK7 := Lib.hid hk7
                   have c27 : w7.cell? ⟨m, 2, none⟩ = some (.slice (some ⟨g, 0, none⟩) L.length c) := Blk.cell (Blk.kept HNR.out.blk hk7 (fun x => x)) rfl
                   clear c2 hown7 hk7)
                | (refine wpList_append_full (E := Rp.str) rfl (w7.alloc (.cells #[.string H] 9)) (.tmp 115) (.tmp 117) 22 rfl 9 16 el_strD (fun k => k < w7.heap.size + 1) (some ⟨g, 0, none⟩) T ?hx1 ?hl1 (some ⟨w7.heap.size, 0, none⟩) 1 [H] rfl ?hm1 Nat.one_pos Rp.str_one ?hcap1 ?hby1 ?_
                   case hx1 => (rw [HTL.out]; rfl)
                   case hm1 => exact str_lit1 w7 H (by rw [HHS.out]; decide) _ _ (by omega)
                   case hl1 => exact Rp.str.slice.keptNo (Rp.str.slice.more HHEAD.out (fun k hk => Nat.lt_of_lt_of_le hk (Nat.le_succ_of_le HK7.out.size))) (HK7.out.alloc _)
                   case hcap1 => have := HTL.out; simp [maxLen]; omega
                   case hby1 => have := HTL.out; simp; omega
                   intro A8 c8 w8 hown8 hk8
                   have HO8 : Hid (Own Rp.str w8 (fun k => k < w7.heap.size) (w7.heap.size + 1) 9 (.slice A8 (T.length + 1) c8) (T ++ [H])) := Lib.hid (by have h := hown8.str_any (fun k => k < w7.heap.size); simpa using h)
                   have HS8 : w7.heap.size + 1 ≤ w8.heap.size := by have := hk8.size; simpa using this
                   have HK8 : Hid (Kp No w7 w8) := Lib.hid (((Kp.refl No w7).alloc _).trans' hk8)
                   clear hown8 hk8)
                | (refine wpList_append_rp (E := Rp.str) rfl w8 (.tmp 118) (.tmp 119) 22 rfl (w7.heap.size + 1) 9 16 el_strD (fun k => k < w7.heap.size) (.slice A8 (T.length + 1) c8) (T ++ [H]) rfl HO8.out A7 c7 (fun k => k < w7.heap.size) D rfl ?hsrc9 Rp.str_one ?hcap9 ?hby9 HS8 (fun _ h => h) ?hsv9 ?_
                   case hsrc9 => exact Rp.str.slice.keptNo ((HO7.out.str_any (fun k => k < w7.heap.size)).read (fun k hk => (HO7.out.lt k hk).2)) HK8.out
                   case hcap9 => have := HTL.out; have := HDL.out; simp [maxLen]; omega
                   case hby9 => have := HTL.out; have := HDL.out; simp; omega
                   case hsv9 => (intro k hk; have := (HO8.out.lt k hk).1; omega)
                   intro v9 w9 hown9 hg9 _
                   obtain ⟨A9, c9, rfl⟩ := hown9.shape
                   have hk9 : Kp No wr w9 := (HK7.out.trans' HK8.out).grown hg9 (fun k hk hlt => by have := (HO8.out.lt k hk).1; have := HK7.out.size; omega)
                   have HO9 := Lib.hid hown9
                   have HLT9 := Lib.hid hown9.lt
                   have HK9 := Lib.hid hk9
                   have c29 : w9.cell? ⟨m, 2, none⟩ = some _ := Blk.cell (Blk.kept HNR.out.blk hk9 (fun x => x)) rfl
                   have f29 := Blk.fr (Blk.kept HNR.out.blk hk9 (fun x => x)) 2
                   clear c27 hown9 hg9 hk9))
              go_ret2
              have ho9 := (HO9.out.str_any No).mono (Nat.le_trans HWW.out (Nat.le_trans HK7.out.size (Nat.le_succ _))) (fun _ h => h)
              rw [show T ++ [H] ++ D = (ins H (s.size : Int) Y.kept).map (·.1) from HFIN.out] at ho9
              obtain ⟨h1, h2⟩ := HNR.out.named HK9.out ho9
              have hlen : ((ins H (s.size : Int) Y.kept).map (·.1)).length = T.length + (D.length + 1) := by rw [← HFIN.out]; simp <;> omega
              have hlt9 := HLT9.out
              rw [show T ++ [H] ++ D = (ins H (s.size : Int) Y.kept).map (·.1) from HFIN.out, hlen] at hlt9
              have HLT9 := Lib.hid hlt9
              rw [hlen] at h1 h2
              rw [HGV.out]
              exact ⟨rfl, ⟨_, h1, .inr fun k hk => Nat.le_trans HKR.out.size (Nat.le_trans HK7.out.size (by have := (HLT9.out k hk).1; omega))⟩, HKR.out.trans h2⟩
          · have hiL : i = L.length := by omega
            have hmlt : m < wr.heap.size := lt_of_cell c2
            have hrk : rank H Y.kept = i := rank_eq (by rw [HLK.out]; exact hi) HA.out (fun q' hq' => by have := (List.getElem?_eq_some_iff.1 hq').1; rw [HLK.out] at this; omega)
            have HRK := Lib.hid hrk
            have HIL := Lib.hid hiL
            clear hrk hiL
            obtain ⟨T, hT⟩ : ∃ T, L.take i = T := ⟨_, rfl⟩
            obtain ⟨D, hD⟩ : ∃ D, L.drop i = D := ⟨_, rfl⟩
            have hfin : T ++ [H] ++ D = (ins H (s.size : Int) Y.kept).map (·.1) := by
              rw [← hT, ← hD, ← HL.out]; exact (ins_names HY.out.ok.kept HYN.out HRK.out).symm
            have HFIN := Lib.hid hfin
            have htl : T.length = i := by rw [← hT, List.length_take]; omega
            have hdl : D.length = L.length - i := by rw [← hD, List.length_drop]
            have HTL := Lib.hid htl
            have HDL := Lib.hid hdl
            have HNR := Lib.hid (HN5.out.kept HKL.out)
            have HKR := Lib.hid (HK5.out.trans (KpTy.ofNo HKL.out))
            have HWW := Lib.hid ((HNR.out.disk.kp).size)
            have hLl : L.length ≤ 2000000 := by rw [← HL.out]; exact HY.out.len
            clear hfin htl hdl
            have hcut := (show Own Rp.str wr No w0.heap.size 9 (.slice (some ⟨g, 0, none⟩) L.length c) L from by have := HNR.out.own; rw [show names { Y with d := addD s Y.d } = L from HL.out] at this; exact this).cutS (i := i) (by omega)
            have hhead := (show Own Rp.str wr No w0.heap.size 9 (.slice (some ⟨g, 0, none⟩) L.length c) L from by have := HNR.out.own; rw [show names { Y with d := addD s Y.d } = L from HL.out] at this; exact this).headS (i := i) (by omega)
            rw [hD] at hcut
            rw [hT] at hhead
            have HHEAD := Lib.hid hhead
            clear hhead hT hD
            by_cases hci : c = i
            · rw [if_pos hci, show c - i = 0 by omega] at hcut
              have HDL : Hid (D.length = 0) := Lib.hid (by have := HDL.out; have := HIL.out; omega)
              have HCUT := Lib.hid hcut
              clear hcut
              have hci2 := hci.symm
              subst hci2
              go_wp2_with (at_builtin; first
                | (refine wpList_copy_lit (E := Rp.str) rfl wr (.tmp 100) (.tmp 106) 22 rfl 9 16 el_strD rfl _ _ (fun k => k < wr.heap.size) D ?hx HCUT.out Rp.str_one ?hby ?_
                   case hx => (rw [HDL.out]; rfl)
                   case hby => have := HDL.out; omega
                   intro A7 c7 w7 hown7 hk7
                   have HO7 := Lib.hid hown7
                   have HK7 := Lib.hid hk7
                   have c27 : w7.cell? ⟨m, 2, none⟩ = some (.slice (some ⟨g, 0, none⟩) L.length i) := Blk.cell (Blk.kept HNR.out.blk hk7 (fun x => x)) rfl
                   clear c2 hown7 hk7)
                | (refine wpList_append_full (E := Rp.str) rfl (w7.alloc (.cells #[.string H] 9)) (.tmp 115) (.tmp 117) 22 rfl 9 16 el_strD (fun k => k < w7.heap.size + 1) (some ⟨g, 0, none⟩) T ?hx1 ?hl1 (some ⟨w7.heap.size, 0, none⟩) 1 [H] rfl ?hm1 Nat.one_pos Rp.str_one ?hcap1 ?hby1 ?_
                   case hx1 => (rw [HTL.out]; rfl)
                   case hm1 => exact str_lit1 w7 H (by rw [HHS.out]; decide) _ _ (by omega)
                   case hl1 => exact Rp.str.slice.keptNo (Rp.str.slice.more HHEAD.out (fun k hk => Nat.lt_of_lt_of_le hk (Nat.le_succ_of_le HK7.out.size))) (HK7.out.alloc _)
                   case hcap1 => have := HTL.out; simp [maxLen]; omega
                   case hby1 => have := HTL.out; simp; omega
                   intro A8 c8 w8 hown8 hk8
                   have HO8 : Hid (Own Rp.str w8 (fun k => k < w7.heap.size) (w7.heap.size + 1) 9 (.slice A8 (T.length + 1) c8) (T ++ [H])) := Lib.hid (by have h := hown8.str_any (fun k => k < w7.heap.size); simpa using h)
                   have HS8 : w7.heap.size + 1 ≤ w8.heap.size := by have := hk8.size; simpa using this
                   have HK8 : Hid (Kp No w7 w8) := Lib.hid (((Kp.refl No w7).alloc _).trans' hk8)
                   clear hown8 hk8)
                | (refine wpList_append_rp (E := Rp.str) rfl w8 (.tmp 118) (.tmp 119) 22 rfl (w7.heap.size + 1) 9 16 el_strD (fun k => k < w7.heap.size) (.slice A8 (T.length + 1) c8) (T ++ [H]) rfl HO8.out A7 c7 (fun k => k < w7.heap.size) D rfl ?hsrc9 Rp.str_one ?hcap9 ?hby9 HS8 (fun _ h => h) ?hsv9 ?_
                   case hsrc9 => exact Rp.str.slice.keptNo ((HO7.out.str_any (fun k => k < w7.heap.size)).read (fun k hk => (HO7.out.lt k hk).2)) HK8.out
                   case hcap9 => have := HTL.out; have := HDL.out; simp [maxLen]; omega
                   case hby9 => have := HTL.out; have := HDL.out; simp; omega
                   case hsv9 => (intro k hk; have := (HO8.out.lt k hk).1; omega)
                   intro v9 w9 hown9 hg9 _
                   obtain ⟨A9, c9, rfl⟩ := hown9.shape
                   have hk9 : Kp No wr w9 := (HK7.out.trans' HK8.out).grown hg9 (fun k hk hlt => by have := (HO8.out.lt k hk).1; have := HK7.out.size; omega)
                   have HO9 := Lib.hid hown9
                   have HLT9 := Lib.hid hown9.lt
                   have HK9 := Lib.hid hk9
                   have c29 : w9.cell? ⟨m, 2, none⟩ = some _ := Blk.cell (Blk.kept HNR.out.blk hk9 (fun x => x)) rfl
                   have f29 := Blk.fr (Blk.kept HNR.out.blk hk9 (fun x => x)) 2
                   clear c27 hown9 hg9 hk9))
              go_ret2
              have ho9 := (HO9.out.str_any No).mono (Nat.le_trans HWW.out (Nat.le_trans HK7.out.size (Nat.le_succ _))) (fun _ h => h)
              rw [show T ++ [H] ++ D = (ins H (s.size : Int) Y.kept).map (·.1) from HFIN.out] at ho9
              obtain ⟨h1, h2⟩ := HNR.out.named HK9.out ho9
              have hlen : ((ins H (s.size : Int) Y.kept).map (·.1)).length = T.length + (D.length + 1) := by rw [← HFIN.out]; simp <;> omega
              have hlt9 := HLT9.out
              rw [show T ++ [H] ++ D = (ins H (s.size : Int) Y.kept).map (·.1) from HFIN.out, hlen] at hlt9
              have HLT9 := Lib.hid hlt9
              rw [hlen] at h1 h2
              rw [HGV.out]
              exact ⟨rfl, ⟨_, h1, .inr fun k hk => Nat.le_trans HKR.out.size (Nat.le_trans HK7.out.size (by have := (HLT9.out k hk).1; omega))⟩, HKR.out.trans h2⟩
            · rw [if_neg hci] at hcut
              have HCUT := Lib.hid hcut
              clear hcut
              have hic : i ≤ c := by omega
              go_wp2_with (at_builtin; first
                | (refine wpList_copy_lit (E := Rp.str) rfl wr (.tmp 100) (.tmp 106) 22 rfl 9 16 el_strD rfl _ _ (fun k => k < wr.heap.size) D ?hx HCUT.out Rp.str_one ?hby ?_
                   case hx => (rw [HDL.out]; rfl)
                   case hby => have := HDL.out; omega
                   intro A7 c7 w7 hown7 hk7
                   have HO7 := Lib.hid hown7
                   have HK7 := Lib.hid hk7
                   have c27 : w7.cell? ⟨m, 2, none⟩ = some (.slice (some ⟨g, 0, none⟩) L.length c) := Blk.cell (Blk.kept HNR.out.blk hk7 (fun x => x)) rfl
                   clear c2 hown7 hk7)
                | (refine wpList_append_full (E := Rp.str) rfl (w7.alloc (.cells #[.string H] 9)) (.tmp 115) (.tmp 117) 22 rfl 9 16 el_strD (fun k => k < w7.heap.size + 1) (some ⟨g, 0, none⟩) T ?hx1 ?hl1 (some ⟨w7.heap.size, 0, none⟩) 1 [H] rfl ?hm1 Nat.one_pos Rp.str_one ?hcap1 ?hby1 ?_
                   case hx1 => (rw [HTL.out]; rfl)
                   case hm1 => exact str_lit1 w7 H (by rw [HHS.out]; decide) _ _ (by omega)
                   case hl1 => exact Rp.str.slice.keptNo (Rp.str.slice.more HHEAD.out (fun k hk => Nat.lt_of_lt_of_le hk (Nat.le_succ_of_le HK7.out.size))) (HK7.out.alloc _)
                   case hcap1 => have := HTL.out; simp [maxLen]; omega
                   case hby1 => have := HTL.out; simp; omega
                   intro A8 c8 w8 hown8 hk8
                   have HO8 : Hid (Own Rp.str w8 (fun k => k < w7.heap.size) (w7.heap.size + 1) 9 (.slice A8 (T.length + 1) c8) (T ++ [H])) := Lib.hid (by have h := hown8.str_any (fun k => k < w7.heap.size); simpa using h)
                   have HS8 : w7.heap.size + 1 ≤ w8.heap.size := by have := hk8.size; simpa using this
                   have HK8 : Hid (Kp No w7 w8) := Lib.hid (((Kp.refl No w7).alloc _).trans' hk8)
                   clear hown8 hk8)
                | (refine wpList_append_rp (E := Rp.str) rfl w8 (.tmp 118) (.tmp 119) 22 rfl (w7.heap.size + 1) 9 16 el_strD (fun k => k < w7.heap.size) (.slice A8 (T.length + 1) c8) (T ++ [H]) rfl HO8.out A7 c7 (fun k => k < w7.heap.size) D rfl ?hsrc9 Rp.str_one ?hcap9 ?hby9 HS8 (fun _ h => h) ?hsv9 ?_
                   case hsrc9 => exact Rp.str.slice.keptNo ((HO7.out.str_any (fun k => k < w7.heap.size)).read (fun k hk => (HO7.out.lt k hk).2)) HK8.out
                   case hcap9 => have := HTL.out; have := HDL.out; simp [maxLen]; omega
                   case hby9 => have := HTL.out; have := HDL.out; simp; omega
                   case hsv9 => (intro k hk; have := (HO8.out.lt k hk).1; omega)
                   intro v9 w9 hown9 hg9 _
                   obtain ⟨A9, c9, rfl⟩ := hown9.shape
                   have hk9 : Kp No wr w9 := (HK7.out.trans' HK8.out).grown hg9 (fun k hk hlt => by have := (HO8.out.lt k hk).1; have := HK7.out.size; omega)
                   have HO9 := Lib.hid hown9
                   have HLT9 := Lib.hid hown9.lt
                   have HK9 := Lib.hid hk9
                   have c29 : w9.cell? ⟨m, 2, none⟩ = some _ := Blk.cell (Blk.kept HNR.out.blk hk9 (fun x => x)) rfl
                   have f29 := Blk.fr (Blk.kept HNR.out.blk hk9 (fun x => x)) 2
                   clear c27 hown9 hg9 hk9))
              go_ret2
              have ho9 := (HO9.out.str_any No).mono (Nat.le_trans HWW.out (Nat.le_trans HK7.out.size (Nat.le_succ _))) (fun _ h => h)
              rw [show T ++ [H] ++ D = (ins H (s.size : Int) Y.kept).map (·.1) from HFIN.out] at ho9
              obtain ⟨h1, h2⟩ := HNR.out.named HK9.out ho9
              have hlen : ((ins H (s.size : Int) Y.kept).map (·.1)).length = T.length + (D.length + 1) := by rw [← HFIN.out]; simp <;> omega
              have hlt9 := HLT9.out
              rw [show T ++ [H] ++ D = (ins H (s.size : Int) Y.kept).map (·.1) from HFIN.out, hlen] at hlt9
              have HLT9 := Lib.hid hlt9
              rw [hlen] at h1 h2
              rw [HGV.out]
              exact ⟨rfl, ⟨_, h1, .inr fun k hk => Nat.le_trans HKR.out.size (Nat.le_trans HK7.out.size (by have := (HLT9.out k hk).1; omega))⟩, HKR.out.trans h2⟩
end Go.Proofs.YtflodiljgphkdaaGreat
