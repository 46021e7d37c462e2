/-
  The document's vault: Has, lose, Bytes, Get.
-/
import Derived.Test.YtflodiljgphkdaaGreatVD1
import Derived.Test.YtflodiljgphkdaaGreatReg
namespace Go.Proofs.YtflodiljgphkdaaGreat
open Go.RowKit Go.ChangeShapes Go.WideShapes Go.ChangeAt

theorem RNew.blk2 {w0 w : World} {r : Nat} {x : DV} (h : RNew w0 w r x) : ∃ v, Blk w r 69 [v, .int .i64 x.fuse, .bool x.off, .int .i64 x.steps] := by
  obtain ⟨F, ⟨v, h1, _⟩, _⟩ := h
  exact ⟨v, h1.blk⟩
theorem el_strD : Elem Tryz.prog 22 9 1 16 := Elem.of Tryz.underlying22 (z := .string ByteArray.empty) (by kernel_rfl) rfl (by decide)
set_option maxRecDepth 100000 in
set_option maxHeartbeats 2000000 in
/-- (*redoubtref10.Vault).Has -/
theorem e_has {w0 : World} {m r : Nat} {X : VV} (h : ByteArray) (hs : h.size ≤ 1048576) (w : World) (hv : RV w0 w m r X) :
    Calls Tryz.prog 43 #[.pointer (some ⟨m, 0, none⟩), .string h] w fun e w' => e = .returned (.bool (hasV h X)) ∧ Kp No w w' := by
  have HV := Lib.hid hv
  obtain ⟨kv, hv⟩ := hv
  have hw := e_whole h hs w hv.disk
  have hk := fun w1 (hk : Kp No w w1) => e_keeps h w1 (HV.out.kept hk)
  obtain ⟨B, hB⟩ : ∃ B, hasV h X = B := ⟨_, rfl⟩
  rw [hB]
  unfold hasV at hB
  obtain ⟨W, hW⟩ : ∃ W, wholeB h X.d = W := ⟨_, rfl⟩
  obtain ⟨K, hK⟩ : ∃ K, keepsV h X = K := ⟨_, rfl⟩
  rw [hW] at hw hB
  rw [hK] at hk hB
  have HW := Lib.hid hw
  have HK := Lib.hid hk
  have c0 : w.cell? ⟨m, 0, none⟩ = some _ := Blk.cell hv.blk rfl
  clear hv hw hk hW hK
  cases W with
  | false =>
    obtain rfl : B = false := by rw [← hB]; simp
    clear hB
    go_enter Tryz.func43, Tryz.ntmps43
    go_wp2_with fail
    refine HW.out.mono ?_
    rintro e w1 ⟨rfl, hk⟩
    have HKK := Lib.hid hk
    clear hk
    go_wp2_with fail
    go_ret
    exact ⟨rfl, HKK.out⟩
  | true =>
    obtain rfl : B = K := by rw [← hB]; simp
    clear hB
    go_enter Tryz.func43, Tryz.ntmps43
    go_wp2_with fail
    refine HW.out.mono ?_
    rintro e w1 ⟨rfl, hk⟩
    have HKK := Lib.hid hk
    clear hk
    go_wp2_with fail
    refine (HK.out w1 HKK.out).mono ?_
    rintro e w2 ⟨rfl, hk⟩
    have HKK := Lib.hid (HKK.out.trans' hk)
    clear hk
    go_wp2_with fail
    go_ret
    exact ⟨rfl, HKK.out⟩

theorem mdel_names (h : ByteArray) : ∀ {l : List (ByteArray × Int)}, (l.map (·.1)).Nodup → (mdel h l).map (·.1) = (l.map (·.1)).filter (fun x => decide (x ≠ h))
  | [], _ => rfl
  | (k, v) :: l, hn => by
    rw [List.map_cons, List.nodup_cons] at hn
    unfold mdel
    by_cases e : h = k
    · rw [if_pos e]
      subst e
      rw [List.map_cons, List.filter_cons, if_neg (by simp)]
      refine (List.filter_eq_self.2 fun x hx => decide_eq_true ?_).symm
      rintro rfl
      exact hn.1 hx
    · rw [if_neg e, List.map_cons, List.map_cons, List.filter_cons, if_pos (by simp; exact fun e2 => e e2.symm), mdel_names h hn.2]
set_option maxRecDepth 100000 in
set_option maxHeartbeats 2000000 in
/-- (*redoubtref10.Vault).lose -/
theorem e_lose {w0 : World} {m r : Nat} {kv : Value} {X : VV} (h : ByteArray) (w : World) (hv : RVn w0 w m r kv X) (hr : (names X).Nodup) (hll : (names X).length ≤ 2000000) (hsz : ∀ s ∈ names X, s.size ≤ 1048576) :
    Calls Tryz.prog 45 #[.pointer (some ⟨m, 0, none⟩), .string h] w fun e w' => e = .returned (.tuple #[]) ∧ (∃ kv', RVn w0 w' m r kv' { X with kept := mdel h X.kept } ∧ ∀ k, kv'.ownBlock = some k → w.heap.size ≤ k) ∧ KpTy RT w0 w w' := by
  obtain ⟨A, c, rfl⟩ := hv.shape
  have HV := Lib.hid hv
  have HW0 := Lib.hid hv.disk.kp.size
  obtain ⟨L, hL⟩ : ∃ L, names X = L := ⟨_, rfl⟩
  have hown := hv.own
  have hblk := hv.blk
  have hdel := mdel_names h (l := X.kept) hr
  rw [show X.kept.map (·.1) = L from hL] at hdel
  rw [hL] at hown hblk hll hsz
  have HO := Lib.hid hown
  have HB := Lib.hid hblk
  have HSZ := Lib.hid hsz
  have HDEL := Lib.hid hdel
  have hlL : (names X).length = L.length := by rw [hL]
  have HLL := Lib.hid hlL
  clear hv hown hblk hr hsz hdel hlL
  go_enter Tryz.func45, Tryz.ntmps45
  go_wp2_with fail
  go_loopw [4, 5] (fun ov iv wr => ∃ i : Nat, i ≤ L.length ∧ iv = .int .i64 (i : Int) ∧ Hid (Kp No w wr) ∧ Own Rp.str wr No w.heap.size 9 ov ((L.take i).filter (fun x => decide (x ≠ h)))) (fun _ iv _ => L.length - (intOf iv).toNat)
  case atStart => exact ⟨0, Nat.zero_le _, rfl, Lib.hid (Kp.refl _ _), Own.nil _ _ _ _ _⟩
  case round =>
    obtain ⟨i, hi, rfl, HK, hown⟩ := hrel
    obtain ⟨D, hD⟩ : ∃ D, (L.take i).filter (fun x => decide (x ≠ h)) = D := ⟨_, rfl⟩
    rw [hD] at hown
    have hDl : D.length ≤ i := by rw [← hD]; exact Nat.le_trans (List.length_filter_le _ _) (by rw [List.length_take]; omega)
    have HD := Lib.hid hD
    obtain ⟨Av, cv, rfl⟩ := hown.shape
    have HOW := Lib.hid hown
    clear hD hown
    have c2 : wr.cell? ⟨m, 2, none⟩ = some (.slice A L.length c) := Blk.cell (Blk.kept HB.out HK.out (fun x => x)) rfl
    by_cases hlt : i < L.length
    · have hli : (i : Int) < (L.length : Int) := by omega
      obtain ⟨s, hs⟩ : ∃ s, L[i]? = some s := ⟨_, List.getElem?_eq_getElem hlt⟩
      obtain ⟨ad, rfl, _, hcell, _⟩ := Rp.at_str (Rp.str.slice.keptNo HO.out.readFrom HK.out) hs
      have hss := HSZ.out s (List.mem_of_getElem? hs)
      have htk : L.take (i + 1) = L.take i ++ [s] := by
        obtain ⟨e1, e2⟩ := List.getElem?_eq_some_iff.1 hs
        rw [List.take_succ_eq_append_getElem e1, e2]
      have hst : (L.take (i + 1)).filter (fun x => decide (x ≠ h)) = D ++ [s].filter (fun x => decide (x ≠ h)) := by rw [htk, List.filter_append, HD.out]
      have HST := Lib.hid hst
      clear htk hst hs
      by_cases hsh : s = h
      · have hb : (s.toList == h.toList) = true := by rw [toList_beq]; exact decide_eq_true hsh
        have hf : [s].filter (fun x => decide (x ≠ h)) = [] := by simp [hsh]
        rw [hf, List.append_nil] at HST
        clear hf hsh hss
        go_wp2_with fail
        go_roundw
        case rel => exact ⟨i + 1, by omega, by go_num, HK, by rw [HST.out]; exact HOW.out⟩
        case measure => simp [intOf]; omega
      · have hb : (s.toList == h.toList) = false := by rw [toList_beq]; exact decide_eq_false hsh
        have hf : [s].filter (fun x => decide (x ≠ h)) = [s] := by simp [hsh]
        rw [hf] at HST
        have HSS : Hid (s.size ≤ maxLen) := Lib.hid (by unfold maxLen; omega)
        clear hf hsh hss
        go_wp2_with (at_builtin; refine wpList_append_lit Rp.str_by rfl _ (.tmp 24) (.tmp 32) 22 rfl w.heap.size 9 16 el_strD (.slice Av D.length cv) D rfl No ?d0 wr.heap.size [s] rfl _ _ _ (heap_alloc_new _ _) ?d1 ?d2 ?d3 ?d4 ?d5 ?d6 ?_)
        case d0 => exact HOW.out.alloc _
        case d2 => intro a ha; simp only [List.mem_cons, List.not_mem_nil, or_false] at ha; subst ha; exact HSS.out
        case d3 => simp [maxLen]; omega
        case d4 => simp; omega
        case d5 => have := HK.out.size; simp; omega
        case d6 => intro h; have := (HOW.out.lt _ h).2; omega
        intro A3 c3 w6 hown hk6
        have HO6 := Lib.hid hown
        have HK6 := Lib.hid ((HK.out.alloc _).trans hk6 (fun i hi hv => absurd (HOW.out.lt i hv).1 (by omega)))
        clear hown hk6
        rw [← HST.out] at HO6
        go_wp2_with fail
        go_roundw
        case rel => exact ⟨i + 1, by omega, by go_num, HK6, by have := HO6.out; simpa [HST.out] using this⟩
        case measure => simp [intOf]; omega
    · obtain rfl : i = L.length := by omega
      have hDe : D = (mdel h X.kept).map (·.1) := by rw [← HD.out, HDEL.out, List.take_length]
      have HDE := Lib.hid hDe
      have hfr := Blk.fr (Blk.kept HB.out HK.out (fun x => x)) 2
      clear hDe
      go_wp2_with fail
      go_end0
      have hv := HV.out
      have hol := HOW.out.lt
      have ho := HOW.out.mono HW0.out (fun _ h => h)
      obtain ⟨D2, hD2⟩ : ∃ D2, (mdel h X.kept).map (·.1) = D2 := ⟨_, rfl⟩
      rw [HDE.out] at ho
      obtain ⟨h1, h2⟩ := hv.named HK.out ho
      rw [← HDE.out] at h1 h2
      exact ⟨rfl, ⟨_, h1, fun k hk => (hol k hk).1⟩, h2⟩

theorem sumV_take {l : List (ByteArray × Int)} {i : Nat} {p : ByteArray × Int} (h : l[i]? = some p) : sumV (l.take (i + 1)) = sumV (l.take i) + p.2 := by
  obtain ⟨e1, e2⟩ := List.getElem?_eq_some_iff.1 h
  rw [List.take_succ_eq_append_getElem e1, e2]
  unfold sumV
  simp
theorem Loose.read {X : VV} (hX : Loose X) {h : ByteArray} {k : Int} (hk : mget h X.kept = Option.some k) : ∃ t, readD (fileN h) X.d = Option.some t ∧ (t.size : Int) = k := by
  obtain ⟨f, hf, hl⟩ := hX.some h k hk
  refine ⟨bs f.bytes, ?_, ?_⟩
  · unfold readD; rw [hX.off, hf]; rfl
  · rw [bs_size]; exact hl.symm
set_option maxRecDepth 100000 in
set_option maxHeartbeats 2000000 in
/-- (*redoubtref10.Vault).Bytes -/
theorem e_bytes {w0 : World} {m r : Nat} {X : VV} (w : World) (hv : RV w0 w m r X) (hX : Loose X) :
    Calls Tryz.prog 46 #[.pointer (some ⟨m, 0, none⟩)] w fun e w' => e = .returned (.int .i64 (bytesV X)) ∧ Kp No w w' := by
  have HX := Lib.hid hX
  have HV := Lib.hid hv
  have hmany := hX.ok.many
  obtain ⟨kv, hv⟩ := hv
  obtain ⟨A, c, rfl⟩ := hv.shape
  have HN := Lib.hid hv
  have hlen : (names X).length = X.kept.length := by unfold names; rw [List.length_map]
  have hby : bytesV X = sumV X.kept := by unfold bytesV; rw [hX.off]; rfl
  rw [hby]
  have HB := Lib.hid hv.blk
  have HO := Lib.hid hv.own
  obtain ⟨M, hM⟩ : ∃ M, (names X).length = M := ⟨_, rfl⟩
  rw [hM] at HB hlen
  have HM := Lib.hid hM
  have HLEN := Lib.hid hlen
  have hmM : M ≤ 2000000 := by omega
  clear hv hX hlen hby hmany hM
  go_enter Tryz.func46, Tryz.ntmps46
  go_wp2_with fail
  go_loopw [3, 4] (fun sv iv wr => ∃ (i : Nat) (x : Int), i ≤ M ∧ iv = .int .i64 (i : Int) ∧ sv = .int .i64 x ∧ 0 ≤ x ∧ x ≤ 128000000 ∧ Hid (x = sumV (X.kept.take i)) ∧ Hid (Kp No w wr)) (fun _ iv _ => M - (intOf iv).toNat)
  case atStart => exact ⟨0, 0, Nat.zero_le _, rfl, rfl, by omega, by omega, Lib.hid (by simp [sumV]), Lib.hid (Kp.refl _ _)⟩
  case round =>
    obtain ⟨i, x, hi, rfl, rfl, hx0, hx1, HS, HK⟩ := hrel
    have c2 : wr.cell? ⟨m, 2, none⟩ = some (.slice A M c) := Blk.cell (Blk.kept HB.out HK.out (fun x => x)) rfl
    have c0 : wr.cell? ⟨m, 0, none⟩ = some (.pointer (some ⟨r, 0, none⟩)) := Blk.cell (Blk.kept HB.out HK.out (fun x => x)) rfl
    by_cases hlt : i < M
    · have hli : (i : Int) < (M : Int) := by omega
      obtain ⟨p, hp⟩ : ∃ p, X.kept[i]? = some p := ⟨_, List.getElem?_eq_getElem (by rw [← HLEN.out]; exact hlt)⟩
      have hn : (names X)[i]? = some p.1 := by unfold names; rw [List.getElem?_map, hp]; rfl
      have ho := HO.out
      rw [← HM.out] at *
      obtain ⟨ad, hA, _, hcell, _⟩ := Rp.at_str (Rp.str.slice.keptNo ho.readFrom HK.out) hn
      subst hA
      have hmem := List.mem_of_getElem? hp
      have hps : p.1.size = 32 := HX.out.keys p hmem
      have hpe := HX.out.ok.each p hmem
      have hmg : mget p.1 X.kept = some p.2 := mget_of_mem HX.out.ok.kept.nodup hmem
      obtain ⟨t, ht, hts⟩ := HX.out.read hmg
      have hf := fun w1 => e_file p.1 (by omega) w1
      have hrd := fun w1 (hk : Kp No w w1) => m_read (fileN p.1) w1 (HN.out.disk.kept hk)
      rw [ht] at hrd
      simp only [textOr, Option.getD_some, Option.isSome_some] at hrd
      have HS2 : Hid (x + p.2 = sumV (X.kept.take (i + 1))) := Lib.hid (by rw [sumV_take hp, HS.out])
      have hsb : x + p.2 ≤ 128000000 := by
        rw [HS2.out]
        have h1 := sumV_le (l := X.kept.take (i + 1)) (fun q hq => HX.out.ok.each q (List.mem_of_mem_take hq))
        have h2 : (X.kept.take (i + 1)).length ≤ 2000000 := Nat.le_trans (List.length_take_le' _ _) HX.out.ok.many
        omega
      obtain ⟨q, hq⟩ : ∃ q, p.2 = q := ⟨_, rfl⟩
      rw [hq] at hts HS2 hsb hpe
      obtain ⟨pn, hpn⟩ : ∃ pn, p.1 = pn := ⟨_, rfl⟩
      rw [hpn] at hf hrd hcell
      have HF := Lib.hid hf
      have HR := Lib.hid hrd
      clear hp hn ho hmem hps hmg ht hf hrd hq hpn
      go_wp2_with fail
      refine Reg.wp_region_plan [⟨0, false, []⟩, ⟨1, false, []⟩, ⟨2, false, []⟩, ⟨3, false, []⟩, ⟨4, false, []⟩, ⟨5, false, []⟩, ⟨6, false, []⟩, ⟨7, false, []⟩, ⟨8, false, []⟩, ⟨9, false, []⟩, ⟨10, false, []⟩, ⟨11, true, [1, 2, 3]⟩, ⟨12, true, []⟩, ⟨13, false, []⟩, ⟨14, false, []⟩, ⟨15, false, []⟩, ⟨16, false, []⟩, ⟨17, false, []⟩] rfl (by kernel_rfl) ?_
      repeat (first | (refine Reg.look rfl rfl rfl (by go_simp; rfl) rfl ?_; go_simp) | (refine Reg.skip rfl rfl rfl ?_; go_simp))
      refine Reg.act rfl ?_
      go_wp2_with fail
      refine (HF.out _).mono ?_
      rintro e w2 ⟨rfl, hk⟩
      have hk2 : Kp No wr w2 := ((Kp.refl No wr).drew).trans' hk
      have c0' : w2.cell? ⟨m, 0, none⟩ = some (.pointer (some ⟨r, 0, none⟩)) := (hk2.cell (lt_of_cell c0) (fun x => x)).trans c0
      have HK2 := Lib.hid (HK.out.trans' hk2)
      clear hk hk2
      go_wp2_with fail
      (refine ⟨?anew, ?_⟩; case anew => ((repeat (refine Reg.anew_cons rfl rfl (fun _ => by go_simp) ?_)); exact Reg.anew_nil))
      repeat (first | (refine Reg.look rfl rfl rfl (by go_simp; rfl) rfl ?_; go_simp) | (refine Reg.skip rfl rfl rfl ?_; go_simp))
      refine Reg.act rfl ?_
      go_wp2_with fail
      refine (HR.out w2 HK2.out).mono ?_
      rintro e w3 ⟨rfl, hk⟩
      have HK3 := Lib.hid (HK2.out.trans' hk)
      clear hk
      go_wp2_with fail
      (refine ⟨?anew, ?_⟩; case anew => ((repeat (refine Reg.anew_cons rfl rfl (fun _ => by go_simp) ?_)); exact Reg.anew_nil))
      repeat (first | (refine Reg.look rfl rfl rfl (by go_simp; rfl) rfl ?_; go_simp) | (refine Reg.skip rfl rfl rfl ?_; go_simp))
      (refine Reg.done ?_; simp only [Exit.then])
      have hxt : x + (t.size : Int) = x + q := by omega
      go_wp2_with fail
      go_roundw
      case rel => exact ⟨i + 1, x + q, by omega, by go_num, by first | go_num | (refine congrArg _ ?_; omega), by omega, hsb, HS2, HK3⟩
      case measure => simp [intOf]; omega
    · obtain rfl : i = M := by omega
      have hfin : x = sumV X.kept := by rw [HS.out, HLEN.out, List.take_length]
      have HFIN := Lib.hid hfin
      clear hfin
      go_wp2_with fail
      go_ret
      exact ⟨by rw [HFIN.out]; rfl, HK.out⟩
end Go.Proofs.YtflodiljgphkdaaGreat
