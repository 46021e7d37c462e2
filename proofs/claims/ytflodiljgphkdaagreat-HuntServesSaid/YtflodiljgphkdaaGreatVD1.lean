/-
  The document's vault: in memory; File, Whole, Keeps, Has, lose, Bytes.
-/
import Derived.Test.YtflodiljgphkdaaGreatRefV
import Derived.Test.YtflodiljgphkdaaGreatLooQ
import Derived.Test.YtflodiljgphkdaaGreatS6
import Derived.Test.YtflodiljgphkdaaGreatR5M
namespace Go.Proofs.YtflodiljgphkdaaGreat
open Go.RowKit Go.ChangeShapes Go.WideShapes Go.ChangeAt

def names (X : VV) : List ByteArray := X.kept.map (·.1)
/-- The document's vault at m on the document's drive at r, new since w0. -/
structure RVn (w0 w : World) (m r : Nat) (kv : Value) (X : VV) : Prop where
  blk : Blk w m 54 [.pointer (some ⟨r, 0, none⟩), .int .i64 X.quota, kv, .slice none 0 0]
  own : Own Rp.str w No w0.heap.size 9 kv (names X)
  disk : RNew w0 w r X.d
  ge : w0.heap.size ≤ m
def RV (w0 w : World) (m r : Nat) (X : VV) : Prop := ∃ kv, RVn w0 w m r kv X
namespace RVn
variable {w0 w w' : World} {m r : Nat} {kv : Value} {X : VV}
theorem kept (h : RVn w0 w m r kv X) (hk : Kp No w w') : RVn w0 w' m r kv X := ⟨Blk.kept h.blk hk (fun x => x), h.own.keptNo hk, h.disk.kept hk, h.ge⟩
theorem turned (h : RVn w0 w m r kv X) {y : DV} (hd : RNew w0 w' r y) (hk : KpTy RD w0 w w') : RVn w0 w' m r kv { X with d := y } := ⟨hk.blk h.blk (by decide), hk.own h.own (by decide), hd, h.ge⟩
theorem keptV (h : RVn w0 w m r kv X) (hk : KpV w w') (h0 : Kp No w0 w') : RVn w0 w' m r kv X := ⟨hk.blk h.blk (by decide), hk.own h.own (by decide), h.disk.keptV hk h0, h.ge⟩
theorem shape (h : RVn w0 w m r kv X) : ∃ A c, kv = .slice A (names X).length c := h.own.shape
/-- its own field turned: the names -/
theorem named {w2 : World} {A : Option Addr} {n c : Nat} {v2 : Value} (h : RVn w0 w m r (.slice A n c) X) (hk : Kp No w w2) {k2 : List (ByteArray × Int)} (ho : Own Rp.str w2 No w0.heap.size 9 v2 (k2.map (·.1))) :
    RVn w0 (w2.setCell ⟨m, 2, none⟩ v2) m r v2 { X with kept := k2 } ∧ KpTy RT w0 w (w2.setCell ⟨m, 2, none⟩ v2) := by
  have h2 := h.kept hk
  have hs : Kp (· = m) w2 (w2.setCell ⟨m, 2, none⟩ v2) := (Kp.refl (· = m) w2).setCell (p := ⟨m, 2, none⟩) (fun _ => rfl) _
  have hkp : Kp No w0 (w2.setCell ⟨m, 2, none⟩ v2) := h2.disk.kp.trans hs fun i hi e => absurd h.ge (by omega)
  refine ⟨⟨Blk.set h2.blk 2 v2, ?_, ?_, h.ge⟩, ?_⟩
  · refine ho.kept hs (fun _ hk => hk.elim) fun k hk e => ?_
    obtain ⟨cs, hc⟩ := ho.block hk
    have hb : w2.heap[m]? = some (.cells _ 54 (0, 0)) := h2.blk
    rw [e, hb] at hc; injection hc with hc; injection hc with _ hc; exact absurd hc (by decide)
  · refine h2.disk.others hs hkp fun k cs e fr hk hc => ?_
    have hb : w2.heap[m]? = some (.cells _ 54 (0, 0)) := h2.blk
    rw [hk, hb] at hc; injection hc with hc; injection hc with _ hc
    subst hc; decide
  · refine (KpTy.ofNo hk).trans ⟨(· = m), hs, ?_⟩
    rintro g rfl
    exact ⟨h.ge, _, _, h2.blk, .inl rfl⟩
end RVn
theorem RV.kp {w0 w : World} {m r : Nat} {X : VV} (h : RV w0 w m r X) : Kp No w0 w := by obtain ⟨_, h⟩ := h; exact h.disk.kp
theorem RV.kept {w0 w w' : World} {m r : Nat} {X : VV} (h : RV w0 w m r X) (hk : Kp No w w') : RV w0 w' m r X := by obtain ⟨kv, h⟩ := h; exact ⟨kv, h.kept hk⟩
theorem RV.keptV {w0 w w' : World} {m r : Nat} {X : VV} (h : RV w0 w m r X) (hk : KpV w w') (h0 : Kp No w0 w') : RV w0 w' m r X := by obtain ⟨kv, h⟩ := h; exact ⟨kv, h.keptV hk h0⟩

theorem names_keeps (h : ByteArray) (X : VV) : keepsV h X = true ↔ h ∈ names X := by
  unfold keepsV names
  cases hm : mget h X.kept with
  | none => simp [(mget_none_iff h X.kept).1 hm]
  | some k =>
    simp only [Option.isSome_some, true_iff]
    exact List.mem_map.2 ⟨(h, k), mem_of_mget hm, rfl⟩

set_option maxRecDepth 100000 in
set_option maxHeartbeats 1000000 in
theorem e_file (h : ByteArray) (hs : h.size ≤ 1048576) (w : World) : Calls Tryz.prog 13 #[.string h] w fun e w' => e = .returned (.string (fileN h)) ∧ Kp No w w' := by
  have hc := r_name h w hs
  have HC := Lib.hid hc
  have hno : ¬ 9223372036854775807 < 2 + (bs (nameL h.data.toList)).size := by rw [bs_size, nameL_length, data_length]; omega
  clear hc
  go_enter Tryz.func13, Tryz.ntmps13
  go_wp2_with fail
  refine (HC.out).mono ?_
  rintro e w1 ⟨rfl, hk⟩
  have HK := Lib.hid hk
  clear hk
  go_wp2_with fail
  go_ret
  exact ⟨rfl, HK.out⟩

set_option maxRecDepth 100000 in
set_option maxHeartbeats 2000000 in
/-- redoubtref10.Whole -/
theorem e_whole {w0 : World} {r : Nat} {x : DV} (h : ByteArray) (hs : h.size ≤ 1048576) (w : World) (hd : RNew w0 w r x) :
    Calls Tryz.prog 34 #[.pointer (some ⟨r, 0, none⟩), .string h] w fun e w' => e = .returned (.tuple #[.string (textOr (readD (fileN h) x)), .bool (wholeB h x)]) ∧ Kp No w w' := by
  have HD := Lib.hid hd
  have hf := e_file h hs w
  have HF := Lib.hid hf
  have hr := fun w1 (hk : Kp No w w1) => m_read (fileN h) w1 (hd.kept hk)
  have hsum := fun (w1 : World) => r_sum (textOr (readD (fileN h) x)) w1
  obtain ⟨Bw, hBw⟩ : ∃ Bw, wholeB h x = Bw := ⟨_, rfl⟩
  rw [hBw]
  unfold wholeB goodC digest at hBw
  obtain ⟨T, hT⟩ : ∃ T, textOr (readD (fileN h) x) = T := ⟨_, rfl⟩
  obtain ⟨B, hB⟩ : ∃ B, (readD (fileN h) x).isSome = B := ⟨_, rfl⟩
  rw [hT] at hsum hBw ⊢
  rw [hB] at hBw
  simp only [hT, hB] at hr
  have HR := Lib.hid hr
  have HSUM := Lib.hid hsum
  clear hd hf hr hsum hT hB
  cases B with
  | false =>
    obtain rfl : Bw = false := by rw [← hBw]; rfl
    clear hBw
    go_enter Tryz.func34, Tryz.ntmps34
    go_wp2_with fail
    refine HF.out.mono ?_
    rintro e w1 ⟨rfl, hk⟩
    have HK := Lib.hid hk
    clear hk
    go_wp2_with fail
    refine (HR.out w1 HK.out).mono ?_
    rintro e w2 ⟨rfl, hk⟩
    have HK := Lib.hid (HK.out.trans' hk)
    clear hk
    go_wp2_with fail
    go_ret2
    exact ⟨rfl, HK.out⟩
  | true =>
    by_cases h1 : (T.size : Int) < 1
    · obtain rfl : Bw = false := by rw [← hBw, decide_eq_false (by omega : ¬ T.size ≠ 0)]; rfl
      have h1b : ¬ (1 : Int) ≤ (T.size : Int) := by omega
      clear hBw
      go_enter Tryz.func34, Tryz.ntmps34
      go_wp2_with fail
      refine HF.out.mono ?_
      rintro e w1 ⟨rfl, hk⟩
      have HK := Lib.hid hk
      clear hk
      go_wp2_with fail
      refine (HR.out w1 HK.out).mono ?_
      rintro e w2 ⟨rfl, hk⟩
      have HK := Lib.hid (HK.out.trans' hk)
      clear hk
      go_wp2_with fail
      go_ret2
      exact ⟨rfl, HK.out⟩
    have h1b : (1 : Int) ≤ (T.size : Int) := by omega
    by_cases h2 : (64 : Int) < (T.size : Int)
    · obtain rfl : Bw = false := by rw [← hBw, decide_eq_false (by omega : ¬ T.size ≤ 64)]; simp
      have h2b : ¬ (T.size : Int) ≤ 64 := by omega
      clear hBw
      go_enter Tryz.func34, Tryz.ntmps34
      go_wp2_with fail
      refine HF.out.mono ?_
      rintro e w1 ⟨rfl, hk⟩
      have HK := Lib.hid hk
      clear hk
      go_wp2_with fail
      refine (HR.out w1 HK.out).mono ?_
      rintro e w2 ⟨rfl, hk⟩
      have HK := Lib.hid (HK.out.trans' hk)
      clear hk
      go_wp2_with fail
      go_ret2
      exact ⟨rfl, HK.out⟩
    have h2b : (T.size : Int) ≤ 64 := by omega
    have HSUM := Lib.hid (fun w1 => HSUM.out w1 (by omega))
    obtain ⟨D, hD⟩ : ∃ D, bs (Go.Proofs.YtflodiljgphkdaaGreat.sha T.data.toList) = D := ⟨_, rfl⟩
    rw [hD] at HSUM hBw
    have hBe : Bw = (D.toList == h.toList) := by
      rw [toList_beq, ← hBw, decide_eq_true (by omega : T.size ≠ 0), decide_eq_true (by omega : T.size ≤ 64)]; rfl
    have HBE := Lib.hid hBe
    clear hBw hD hBe
    go_enter Tryz.func34, Tryz.ntmps34
    go_wp2_with fail
    refine HF.out.mono ?_
    rintro e w1 ⟨rfl, hk⟩
    have HK := Lib.hid hk
    clear hk
    go_wp2_with fail
    refine (HR.out w1 HK.out).mono ?_
    rintro e w2 ⟨rfl, hk⟩
    have HK := Lib.hid (HK.out.trans' hk)
    clear hk
    go_wp2_with fail
    refine (HSUM.out _).mono ?_
    rintro e w3 ⟨rfl, hk⟩
    have HK := Lib.hid (HK.out.trans' hk)
    clear hk
    go_wp2_with fail
    go_ret2
    exact ⟨by rw [HBE.out]; rfl, HK.out⟩
set_option maxRecDepth 100000 in
set_option maxHeartbeats 2000000 in
/-- (*redoubtref10.Vault).Keeps -/
theorem e_keeps {w0 : World} {m r : Nat} {X : VV} (h : ByteArray) (w : World) (hv : RV w0 w m r X) :
    Calls Tryz.prog 44 #[.pointer (some ⟨m, 0, none⟩), .string h] w fun e w' => e = .returned (.bool (keepsV h X)) ∧ Kp No w w' := by
  obtain ⟨kv, hv⟩ := hv
  obtain ⟨A, c, rfl⟩ := hv.shape
  have HV := Lib.hid hv
  have hkn := names_keeps h X
  obtain ⟨K, hK⟩ : ∃ K, keepsV h X = K := ⟨_, rfl⟩
  rw [hK] at hkn ⊢
  have HKN := Lib.hid hkn
  clear hK hkn
  obtain ⟨L, hL⟩ : ∃ L, names X = L := ⟨_, rfl⟩
  have hown := hv.own
  rw [hL] at hown HKN
  have HO := Lib.hid hown
  have hblk := hv.blk
  rw [hL] at hblk
  have HB := Lib.hid hblk
  have hll : (L.length : Int) ≤ 9223372036854775807 := by obtain ⟨_, _, he, h1, h2, _⟩ := hown.readFrom; simp only [List.cons.injEq, Value.slice.injEq, and_true] at he; unfold maxLen at h2; omega
  clear hv hL hown hblk HV
  go_enter Tryz.func44, Tryz.ntmps44
  go_wp2_with fail
  go_loopw [5] (fun iv wr => ∃ i : Nat, i ≤ L.length ∧ iv = .int .i64 (i : Int) ∧ Hid (Kp No w wr) ∧ Hid (h ∉ L.take i)) (fun iv _ => L.length - (intOf iv).toNat)
  case atStart => exact ⟨0, Nat.zero_le _, rfl, Lib.hid (Kp.refl _ _), Lib.hid (by simp)⟩
  case round =>
    obtain ⟨i, hi, rfl, HK, HN⟩ := hrel
    have c2 : wr.cell? ⟨m, 2, none⟩ = some (.slice A L.length c) := Blk.cell (Blk.kept HB.out HK.out (fun x => x)) rfl
    by_cases hlt : i < L.length
    · have hli : (i : Int) < (L.length : Int) := by omega
      obtain ⟨s, hs⟩ : ∃ s, L[i]? = some s := ⟨_, List.getElem?_eq_getElem hlt⟩
      obtain ⟨ad, rfl, _, hcell, _⟩ := Rp.at_str (Rp.str.slice.keptNo HO.out.readFrom HK.out) hs
      by_cases hsh : s = h
      · have hb : (s.toList == h.toList) = true := by rw [toList_beq]; exact decide_eq_true hsh
        have HIN : Hid (K = true) := Lib.hid (HKN.out.2 (hsh ▸ List.mem_of_getElem? hs))
        clear hs hsh
        go_wp2_with fail
        go_ret
        exact ⟨by rw [HIN.out]; rfl, HK.out⟩
      · have hb : (s.toList == h.toList) = false := by rw [toList_beq]; exact decide_eq_false hsh
        have HN2 : Hid (h ∉ L.take (i + 1)) := Lib.hid (by
          obtain ⟨e1, e2⟩ := List.getElem?_eq_some_iff.1 hs
          rw [List.take_succ_eq_append_getElem e1, e2]
          intro hm
          rcases List.mem_append.1 hm with hm | hm
          · exact HN.out hm
          · exact hsh (List.mem_singleton.1 hm).symm)
        clear hs hsh
        go_wp2_with fail
        go_roundw
        case rel => exact ⟨i + 1, by omega, by go_num, HK, HN2⟩
        case measure => simp [intOf]; omega
    · obtain rfl : i = L.length := by omega
      have HOUT : Hid (K = false) := Lib.hid (by have h1 := HN.out; rw [List.take_length] at h1; cases K with | false => rfl | true => exact absurd (HKN.out.1 rfl) h1)
      go_wp2_with fail
      go_ret
      exact ⟨by rw [HOUT.out]; rfl, HK.out⟩
end Go.Proofs.YtflodiljgphkdaaGreat
