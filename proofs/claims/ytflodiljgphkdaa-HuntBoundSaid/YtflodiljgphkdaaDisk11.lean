/-
  disk.Crash.
-/
import Derived.Test.YtflodiljgphkdaaDisk10
namespace Go.Proofs.Ytflodiljgphkdaa
open Go.RowKit Go.ChangeShapes Go.WideShapes Go.ChangeAt

section
variable {ν : Type}
theorem ins_mid {n : ByteArray} {f g : ν} {rest : List (ByteArray × ν)} : ∀ {done : List (ByteArray × ν)}, Rising (done ++ (n, f) :: rest) → ins n g (done ++ (n, f) :: rest) = done ++ (n, g) :: rest
  | [], _ => by simp [ins]
  | (k, y) :: done, h => by
    unfold Rising at h
    rw [List.cons_append, List.pairwise_cons] at h
    have hk : nlt k n := h.1 (n, f) (by simp)
    show ins n g ((k, y) :: (done ++ (n, f) :: rest)) = _
    unfold ins
    rw [if_neg (nlt_ne hk).symm, if_neg (nlt_asymm hk), ins_mid h.2]; rfl
theorem mdel_mid {n : ByteArray} {f : ν} {rest : List (ByteArray × ν)} : ∀ {done : List (ByteArray × ν)}, Rising (done ++ (n, f) :: rest) → mdel n (done ++ (n, f) :: rest) = done ++ rest
  | [], _ => by simp [mdel]
  | (k, y) :: done, h => by
    unfold Rising at h
    rw [List.cons_append, List.pairwise_cons] at h
    have hk : nlt k n := h.1 (n, f) (by simp)
    show mdel n ((k, y) :: (done ++ (n, f) :: rest)) = _
    unfold mdel
    rw [if_neg (nlt_ne hk).symm, mdel_mid h.2]; rfl
theorem mget_mid {n : ByteArray} {f : ν} {done rest : List (ByteArray × ν)} (h : Rising (done ++ (n, f) :: rest)) : mget n (done ++ (n, f) :: rest) = some f := mget_of_mem h.nodup (by simp)
end

theorem addr_add0 (a : Addr) : a.add 0 = a := by unfold Addr.add; split <;> simp_all
theorem vblk_len (A : Option Addr) (n n' c : Nat) : vblk (.slice A n c) = vblk (.slice A n' c) := by cases A <;> rfl
theorem ks_tail {w : World} {S : Nat → Prop} {ak ad : Addr} {c c2 : Nat} {ks : List Int} (h : (Rp.int .i64).slice.R w S [.slice (some ak) ks.length c] ks) (h0 : 0 < ks.length) (hc : (c = 1 ∧ c2 = 0) ∨ (ad = ak.add 1 ∧ c2 = c - 1)) :
    (Rp.int .i64).slice.R w S [.slice (some ad) ks.tail.length c2] ks.tail := by
  rcases hc with ⟨rfl, rfl⟩ | ⟨rfl, rfl⟩
  · have h1 : ks.length ≤ 1 := by obtain ⟨_, _, he, h1, _⟩ := h; injection he with he; injection he with _ _ he; subst he; exact h1
    have : ks.tail = [] := List.eq_nil_of_length_eq_zero (by rw [List.length_tail]; omega)
    rw [this]
    exact ⟨_, _, rfl, Nat.le_refl _, Nat.zero_le _, fun h => absurd h (by simp)⟩
  · have := Rp.cut h (k := 1) (by omega)
    simpa [Rp.int] using this
theorem Rp.cap_le {α : Type} {E : Rp α} {w : World} {S : Nat → Prop} {A : Option Addr} {n c : Nat} {l : List α} (h : E.slice.R w S [.slice A n c] l) : l.length ≤ c ∧ c ≤ maxLen := by
  obtain ⟨A', c', he, h1, h2, _⟩ := h
  injection he with he
  injection he with _ _ he
  subst he
  exact ⟨h1, h2⟩
/-- The loop over the names, so far: what was done with the first i files; the rest stands as it stood; so many keeps are left. -/
def CrRel (w : World) (d m : Nat) (x : DV) (F : Nat → Prop) (ks0 : List Int) (i : Nat) (ks : List Int) (wr : World) : Prop :=
  ∃ l L done, DiskIn wr d m l L { x with files := done ++ x.files.drop i } ∧ crashF x.files ks0 = done ++ crashF (x.files.drop i) ks ∧ Kp F w wr ∧ ∀ k, DF d m L { x with files := done ++ x.files.drop i } k → F k ∨ w.heap.size ≤ k
theorem CrRel.step {w : World} {d m : Nat} {x : DV} {F : Nat → Prop} {ks0 ks : List Int} {i : Nat} {n : ByteArray} {f : FV} (hi : x.files[i]? = some (n, f)) {l : List (ByteArray × Value)} {L : Loc} {done : List (ByteArray × FV)} {w2 : World} {g : FV}
    (h : DiskIn w2 d m l L { x with files := done ++ (n, g) :: x.files.drop (i + 1) }) (hc : crashF x.files ks0 = done ++ crashF (x.files.drop i) ks) (hg : g = crash1 f (ks.headD 0)) (ho : g.old = true) (hk : Kp F w w2) (hn : ∀ k, DF d m L { x with files := done ++ (n, g) :: x.files.drop (i + 1) } k → F k ∨ w.heap.size ≤ k) :
    CrRel w d m x F ks0 (i + 1) (nextK f ks) w2 := by
  obtain ⟨hlt, he⟩ := List.getElem?_eq_some_iff.1 hi
  refine ⟨l, L, done ++ [(n, g)], ?_, ?_, hk, ?_⟩
  · rw [List.append_assoc]; exact h
  · rw [hc, List.drop_eq_getElem_cons hlt, he, List.append_assoc]
    show _ = done ++ ([(n, g)] ++ crashF (x.files.drop (i + 1)) (nextK f ks))
    congr 1
    show consIf n (crash1 f (ks.headD 0)) _ = _
    rw [← hg]
    unfold consIf
    rw [if_pos ho]; rfl
  · rw [List.append_assoc]; exact hn
theorem CrRel.gone {w : World} {d m : Nat} {x : DV} {F : Nat → Prop} {ks0 ks : List Int} {i : Nat} {n : ByteArray} {f : FV} (hi : x.files[i]? = some (n, f)) {l : List (ByteArray × Value)} {L : Loc} {done : List (ByteArray × FV)} {w2 w3 : World} {g : FV}
    (h : DiskIn w2 d m l L { x with files := done ++ (n, g) :: x.files.drop (i + 1) }) (hm : MapOf w3 m Value.string (mdel n l)) (hk3 : Kp (· = m) w2 w3) (hc : crashF x.files ks0 = done ++ crashF (x.files.drop i) ks) (hg : g = crash1 f (ks.headD 0)) (ho : g.old = false) (hk : Kp F w w2) (hFm : F m)
    (hn : ∀ k, DF d m L { x with files := done ++ (n, g) :: x.files.drop (i + 1) } k → F k ∨ w.heap.size ≤ k) : CrRel w d m x F ks0 (i + 1) (nextK f ks) w3 := by
  obtain ⟨hlt, he⟩ := List.getElem?_eq_some_iff.1 hi
  have hd := h.delete n hm hk3
  have hft := h.delete_foot n
  have e1 : mdel n (done ++ (n, g) :: x.files.drop (i + 1)) = done ++ x.files.drop (i + 1) := mdel_mid h.ok.rising
  simp only [e1] at hd hft
  refine ⟨_, L, done, hd, ?_, hk.trans' (hk3.mono fun k _ e => by rw [e]; exact hFm), fun k hk => hn k (hft k hk)⟩
  rw [hc, List.drop_eq_getElem_cons hlt, he]
  congr 1
  show consIf n (crash1 f (ks.headD 0)) _ = _
  rw [← hg]
  unfold consIf
  rw [if_neg (by rw [ho]; simp)]

theorem CrRel.turned {w2 wr w5 : World} {d m : Nat} {x : DV} {F : Nat → Prop} {n : ByteArray} {f g : FV} {l : List (ByteArray × Value)} {L : Loc} {done rest : List (ByteArray × FV)} (hd : DiskIn wr d m l L { x with files := done ++ (n, f) :: rest }) (hu : FileUp wr w5 (L n).1 (L n).2 g) (hog : OkF g) (hkp : Kp F w2 wr)
    (hft : ∀ k, DF d m L { x with files := done ++ (n, f) :: rest } k → F k ∨ w2.heap.size ≤ k) : ∃ L5, DiskIn w5 d m l L5 { x with files := done ++ (n, g) :: rest } ∧ Kp F w2 w5 ∧ ∀ k, DF d m L5 { x with files := done ++ (n, g) :: rest } k → F k ∨ w2.heap.size ≤ k := by
  obtain ⟨L5, h1, h2, h3⟩ := hd.turn (mget_mid hd.ok.rising) hu hog
  have e1 : ins n g (done ++ (n, f) :: rest) = done ++ (n, g) :: rest := ins_mid hd.ok.rising
  simp only [e1] at h1 h3
  refine ⟨L5, h1, hkp.trans h2 (fun k hk hf => (hft k hf).elim id (fun h => by omega)), fun k hk => ?_⟩
  rcases h3 k hk with h4 | h4
  · exact hft k h4
  · have := hkp.size; right; omega

set_option maxRecDepth 100000 in
set_option maxHeartbeats 2000000 in
theorem d_crash (d : Nat) (x : DV) (F : Nat → Prop) (A0 : Option Addr) (c0 : Nat) (ks0 : List Int) (S : Nat → Prop) (w : World) (h : DiskAt w d x F) (hn : x.files.length ≤ 1000000) (hks : (Rp.int .i64).slice.R w S [.slice A0 ks0.length c0] ks0) (hS : ∀ k, S k → ¬ F k) :
    Calls Try.prog 21 #[.pointer (some ⟨d, 0, none⟩), .slice A0 ks0.length c0] w fun e w' => e = .returned (.tuple #[]) ∧ ∃ F', DiskAt w' d (crashD ks0 x) F' ∧ Upd F w w' F' := by
  obtain ⟨m, l, L, h, hF⟩ := h
  have H := Lib.hid h
  have HF := Lib.hid hF
  have HKS := Lib.hid ((Rp.slice _).bnd hks)
  have HS := Lib.hid hS
  have d0 : w.cell? ⟨d, 0, none⟩ = some _ := Blk.cell H.out.blk rfl
  obtain ⟨hk1, hk2, hk3⟩ := h.keys
  obtain ⟨N, hN⟩ : ∃ N, x.files.map (·.1) = N := ⟨_, rfl⟩
  rw [hN] at hk1
  have hNx : N.length = x.files.length := by rw [← hN, List.length_map]
  have hNl : N.length ≤ 1000000 := by omega
  have HNi : Hid (∀ (i : Nat) y, N[i]? = some y → ∃ f, x.files[i]? = some (y, f)) := Lib.hid (by
    intro i y hy
    rw [← hN, List.getElem?_map] at hy
    cases hx : x.files[i]? with
    | none => rw [hx] at hy; cases hy
    | some p => rw [hx] at hy; injection hy with hy; subst hy; exact ⟨p.2, rfl⟩)
  have hkc := c_keys_file m w
  have hso := c_sorted_file m l w h.map (fun p hp => by have := hk2 p hp; unfold maxLen; omega) (by omega)
  rw [hk1] at hso
  have hkl : (ks0.length : Int) ≤ 9223372036854775807 := by obtain ⟨_, _, _, h1, h2, _⟩ := hks; unfold maxLen at h2; omega
  have HNX := Lib.hid hNx
  clear hN hn hk1 hk2 hk3 h hF hks hS hNx
  go_enter Try.func21, Try.ntmps21
  go_wp2_with fail
  refine hkc.mono ?_
  rintro e w1 ⟨rfl, rfl⟩
  clear hkc
  go_wp2_with fail
  refine hso.mono ?_
  rintro e w2 ⟨An, cn, rfl, hown, hk2⟩
  have HN := Lib.hid hown.readFrom
  have HK2 := Lib.hid hk2
  have hs2 := hk2.size
  have HREL : Hid (CrRel w2 d m x F ks0 0 ks0 w2) := Lib.hid ⟨l, L, [], H.out.kept hk2 (fun _ _ x => x), rfl, Kp.refl _ _, fun k hk => .inl ((HF.out k).2 hk)⟩
  clear hso hown hk2 d0
  go_wp2_with fail
  go_loopw [1, 18] (fun kv iv wr => ∃ (i : Nat) (A : Option Addr) (c : Nat) (ks : List Int), i ≤ N.length ∧ iv = .int .i64 (i : Int) ∧ kv = .slice A ks.length c ∧ (ks.length : Int) ≤ 9223372036854775807 ∧ (∀ wz, Kp F w2 wz → (Rp.int .i64).slice.R wz (fun k => S k ∧ k < w.heap.size) [.slice A ks.length c] ks) ∧ CrRel w2 d m x F ks0 i ks wr) (fun _ iv _ => N.length - (intOf iv).toNat)
  case atStart =>
    exact ⟨0, A0, c0, ks0, Nat.zero_le _, rfl, rfl, hkl, fun wz hz => (Rp.slice _).kept HKS.out ((HK2.out.any (S := F)).trans' hz) (fun k hk _ hk2 => HS.out k hk.1 hk2), HREL.out⟩
  case round =>
    obtain ⟨i, A, c, ks, hi, rfl, rfl, hksl, hksr, l1, L1, done, hd1, hcr, hkp, hft⟩ := hrel
    have HD1 := Lib.hid hd1
    have HCR := Lib.hid hcr
    have HKP := Lib.hid hkp
    have HFT := Lib.hid hft
    have HKR := Lib.hid hksr
    have HKL := Lib.hid hksl
    clear hd1 hcr hkp hft hksr hksl HREL
    by_cases hlt : i < N.length
    · have hli : (i : Int) < (N.length : Int) := by omega
      obtain ⟨n, hy⟩ : ∃ y, N[i]? = some y := ⟨_, List.getElem?_eq_getElem hlt⟩
      obtain ⟨f, hxf⟩ := HNi.out i n hy
      have HN' := (Rp.slice _).kept HN.out HKP.out (fun k hk _ hf => by
        have := H.out.lt k ((HF.out k).1 hf)
        rcases hk with hk | hk
        · exact hk
        · omega)
      obtain ⟨ad, rfl, _, hcell, _⟩ := Rp.at_str HN' hy
      have hdrop : x.files.drop i = (n, f) :: x.files.drop (i + 1) := by
        obtain ⟨h1, h2⟩ := List.getElem?_eq_some_iff.1 hxf
        rw [List.drop_eq_getElem_cons h1, h2]
      have hof : OkF f := (H.out.ok.file (n, f) (List.mem_of_getElem? hxf)).1
      have hd1 := HD1.out
      have hft1 := HFT.out
      rw [hdrop] at hd1 hft1
      have HD1 := Lib.hid hd1
      have HFT := Lib.hid hft1
      have hmg : mget n (done ++ (n, f) :: x.files.drop (i + 1)) = some f := mget_mid hd1.ok.rising
      have HMG := Lib.hid hmg
      have hfi := hd1.file n f hmg
      have HFI := Lib.hid hfi
      have hlook := hd1.map.look (P := Try.prog) key_dsk Try.underlying83 n (zero_filep wr)
      rw [hd1.ents n, hmg] at hlook
      simp only [Option.map_some, Option.getD_some] at hlook
      have z0 : wr.cell? ⟨d, 0, none⟩ = some _ := Blk.cell hd1.blk rfl
      have hwt := d_waits (L1 n).1 (L1 n).2 f wr hfi hof
      obtain ⟨b, hb⟩ : ∃ b, (L1 n).1 = b := ⟨_, rfl⟩
      rw [hb] at hlook hwt
      have HOF := Lib.hid hof
      have HXF := Lib.hid hxf
      clear hd1 hft1 hmg hfi hdrop hof hxf HN' hy
      obtain ⟨Ab, cb, hV, _⟩ := HFI.out.2.shape
      have HV := Lib.hid hV
      have hfi3 : ∀ q, FileIn (wr.drewN q) b (.slice Ab f.bytes.length cb) f := fun q => by
        have h := HFI.out
        rw [hb, hV] at h
        exact h
      clear hV
      by_cases hw : waits f = true
      · have hwi : (0 : Int) < (f.bytes.length : Int) - (f.sure : Int) := by unfold waits at hw; simp at hw; omega
        have HW := Lib.hid hw
        clear hw
        have b1 : wr.cell? ⟨b, 1, none⟩ = some (.int .i64 (f.sure : Int)) := (hfi3 0).1.cell rfl
        cases ks with
        | nil =>
          go_wp2_with fail
          refine hwt.mono ?_
          rintro e w3 ⟨rfl, q, rfl⟩
          have hfi3 := hfi3 q
          clear hwt
          go_wp2_with fail
          -- the file is cut; old by what was kept
          have hofk := cutF_ok HOF.out (0 : Int)
          refine (d_cut b Ab _ cb f (0 : Int) _ hfi3 HOF.out).mono ?_
          rintro e w4 ⟨rfl, hf4, hk4⟩
          have hk4 : Kp (· = b) wr w4 := ((Kp.refl (· = b) wr).drewN _).trans' hk4
          have a2 : w4.cell? ⟨b, 2, none⟩ = some (.bool f.old) := hf4.1.cell rfl
          have a1 : w4.cell? ⟨b, 1, none⟩ = some (.int .i64 ((f.sure + keepOf f (0 : Int) : Nat) : Int)) := hf4.1.cell rfl
          have y2 := hf4.1.fr 2
          have HF4 := Lib.hid hf4
          have HK4 := Lib.hid hk4
          obtain ⟨P, hP⟩ : ∃ P, keepOf f (0 : Int) = P := ⟨_, rfl⟩
          rw [hP] at a1
          have HP := Lib.hid hP
          have hsl : (f.sure : Int) ≤ 1048576 := by have := HOF.out; have := this.1; have := HOF.out.2; omega
          clear hf4 hk4 hP
          have hcutw : ∀ (B : Bool), (f.old || decide (0 < P)) = B → ∃ w5, w4.setCell ⟨b, 2, none⟩ (.bool B) = w5 ∧ w5.cell? ⟨b, 2, none⟩ = some (.bool B) ∧ w5.cell? ⟨d, 0, none⟩ = some (.map (some m)) ∧ (∃ g : FV, g = cutF f (0 : Int) ∧ g.old = B ∧ ∃ L5, DiskIn w5 d m l1 L5 { x with files := done ++ (n, g) :: x.files.drop (i + 1) } ∧ Kp F w2 w5 ∧ ∀ k, DF d m L5 { x with files := done ++ (n, g) :: x.files.drop (i + 1) } k → F k ∨ w2.heap.size ≤ k) := by
            intro B hB
            have hb5 := HF4.out.1.set 2 (.bool B)
            have hk5 : Kp (· = b) w4 (w4.setCell ⟨b, 2, none⟩ (.bool B)) := (Kp.refl (· = b) w4).setCell (p := ⟨b, 2, none⟩) (fun _ => rfl) _
            have hg : cutF f (0 : Int) = ⟨f.bytes.take (f.sure + keepOf f (0 : Int)), f.sure + keepOf f (0 : Int), B⟩ := by unfold cutF; rw [HP.out, hB]
            have hf5 : FileIn (w4.setCell ⟨b, 2, none⟩ (.bool B)) b (.slice Ab (f.sure + keepOf f (0 : Int)) cb) (cutF f (0 : Int)) := by
              rw [hg]
              exact ⟨hb5, HF4.out.2.kept hk5 (fun k hk e => HF4.out.ne (by rw [hk, e]))⟩
            have hu : FileUp wr (w4.setCell ⟨b, 2, none⟩ (.bool B)) (L1 n).1 (L1 n).2 (cutF f (0 : Int)) := by
              rw [hb, HV.out]
              refine ⟨_, hf5, (HK4.out.trans' hk5).mono (fun k _ e => .inl e), fun k hk => .inl ((vblk_len Ab _ _ cb).trans hk)⟩
            obtain ⟨L5, h1, h2, h3⟩ := CrRel.turned HD1.out hu hofk HKP.out HFT.out
            exact ⟨_, rfl, hb5.cell rfl, Blk.cell h1.blk rfl, _, rfl, by rw [hg], L5, h1, h2, h3⟩
          have hgc : cutF f (0 : Int) = crash1 f (([] : List Int).headD 0) := by unfold crash1; rw [HW.out, show ([] : List Int).headD 0 = 0 from rfl]; rfl
          have HGC := Lib.hid hgc
          have HNK : Hid (nextK f ([] : List Int) = ([] : List Int)) := Lib.hid (by unfold nextK; rw [HW.out]; rfl)
          clear hofk hgc
          cases hold : f.old with
          | true =>
            rw [hold] at a2 hcutw
            obtain ⟨w5, hw5, t2, z5, g, hg, hgo, L5, hd5, hk5, hft5⟩ := hcutw true (by simp)
            have HD5 := Lib.hid hd5
            have HK5 := Lib.hid hk5
            have HFT5 := Lib.hid hft5
            have HG : Hid (g = crash1 f (([] : List Int).headD 0)) := Lib.hid (by rw [hg]; exact HGC.out)
            have HGO := Lib.hid hgo
            clear hg hd5 hk5 hft5 hold hgo
            go_wp2_with fail
            go_roundw
            case rel => exact ⟨i + 1, A, c, ([] : List Int), by omega, by go_num, rfl, by have := HKL.out; simp at this ⊢ <;> omega, HKR.out, by rw [← HNK.out]; exact CrRel.step HXF.out HD5.out HCR.out HG.out HGO.out HK5.out HFT5.out⟩
            case measure => simp [intOf]; omega
          | false =>
            rw [hold] at a2 hcutw
            by_cases hp : 0 < P
            · have hpi : decide ((f.sure : Int) < (f.sure : Int) + (P : Int)) = true := by simp; omega
              obtain ⟨w5, hw5, t2, z5, g, hg, hgo, L5, hd5, hk5, hft5⟩ := hcutw true (by simp [hp])
              rw [← hpi] at hw5
              clear hpi
              have HD5 := Lib.hid hd5
              have HK5 := Lib.hid hk5
              have HFT5 := Lib.hid hft5
              have HG : Hid (g = crash1 f (([] : List Int).headD 0)) := Lib.hid (by rw [hg]; exact HGC.out)
              have HGO := Lib.hid hgo
              clear hg hd5 hk5 hft5 hold hgo hcutw
              go_wp2_with fail
              go_roundw
              case rel => exact ⟨i + 1, A, c, ([] : List Int), by omega, by go_num, rfl, by have := HKL.out; simp at this ⊢ <;> omega, HKR.out, by rw [← HNK.out]; exact CrRel.step HXF.out HD5.out HCR.out HG.out HGO.out HK5.out HFT5.out⟩
              case measure => simp [intOf]; omega
            · have hpi : decide ((f.sure : Int) < (f.sure : Int) + (P : Int)) = false := by simp; omega
              obtain ⟨w5, hw5, t2, z5, g, hg, hgo, L5, hd5, hk5, hft5⟩ := hcutw false (by simp [hp])
              rw [← hpi] at hw5
              clear hpi
              have HD5 := Lib.hid hd5
              have HK5 := Lib.hid hk5
              have HFT5 := Lib.hid hft5
              have HG : Hid (g = crash1 f (([] : List Int).headD 0)) := Lib.hid (by rw [hg]; exact HGC.out)
              have HGO := Lib.hid hgo
              obtain ⟨w6, hrun, hm6, hk6⟩ := hd5.map.delete (P := Try.prog) key_dsk Try.underlying83 n 9 0
              have HM6 := Lib.hid hm6
              have HK6 := Lib.hid hk6
              have HFm := Lib.hid ((HF.out m).2 (.inr (.inl rfl)))
              clear hg hd5 hk5 hft5 hold hgo hm6 hk6 hcutw
              go_wp2_with fail
              try rw [hrun]
              try go_wp2_with fail
              go_roundw
              case rel => exact ⟨i + 1, A, c, ([] : List Int), by omega, by go_num, rfl, by have := HKL.out; simp at this ⊢ <;> omega, HKR.out, by rw [← HNK.out]; exact CrRel.gone HXF.out HD5.out HM6.out HK6.out HCR.out HG.out HGO.out HK5.out HFm.out HFT5.out⟩
              case measure => simp [intOf]; omega
        | cons k0 ks' =>
          obtain ⟨ks, hkse⟩ : ∃ ks, k0 :: ks' = ks := ⟨_, rfl⟩
          rw [hkse] at HCR HKR HKL
          rw [hkse]
          have hk00 : ks[0]? = some k0 := by rw [← hkse]; rfl
          have hk01 : (1 : Int) ≤ (ks.length : Int) := by rw [← hkse, List.length_cons]; omega
          have HKE := Lib.hid hkse
          clear hkse
          have hks := HKR.out wr HKP.out
          obtain ⟨ak, rfl, _, kcell, kwf⟩ := Rp.at_int hks (i := 0) (a := k0) hk00
          have hcc : (ks.length : Int) ≤ (c : Int) := by have := (Rp.cap_le hks).1; omega
          have hc1 : (1 : Int) ≤ (c : Int) := by omega
          have hk0 : (0 : Int) < (ks.length : Int) := by omega
          rw [addr_add0] at kcell
          have HWF := Lib.hid kwf
          clear hks kwf hk00
          by_cases hc1 : c = 1
          · subst hc1
            go_wp2_with fail
            refine hwt.mono ?_
            rintro e w3 ⟨rfl, q, rfl⟩
            have hfi3 := hfi3 (q + 1)
            clear hwt
            go_wp2_with fail
            refine Reg.wp_region_plan [⟨0, false, []⟩, ⟨1, false, []⟩, ⟨2, false, []⟩, ⟨3, false, []⟩, ⟨4, false, []⟩, ⟨5, false, []⟩, ⟨6, false, []⟩] rfl (by kernel_rfl) ?_
            repeat (first | (refine Reg.look rfl rfl rfl (by go_simp; rfl) rfl ?_; go_simp) | (refine Reg.skip rfl rfl rfl ?_; go_simp))
            (refine Reg.done ?_; simp only [Exit.then])
            go_wp2_with fail
            -- the file is cut; old by what was kept
            have hofk := cutF_ok HOF.out k0
            refine (d_cut b Ab _ cb f k0 _ hfi3 HOF.out).mono ?_
            rintro e w4 ⟨rfl, hf4, hk4⟩
            have hk4 : Kp (· = b) wr w4 := ((Kp.refl (· = b) wr).drewN _).trans' hk4
            have a2 : w4.cell? ⟨b, 2, none⟩ = some (.bool f.old) := hf4.1.cell rfl
            have a1 : w4.cell? ⟨b, 1, none⟩ = some (.int .i64 ((f.sure + keepOf f k0 : Nat) : Int)) := hf4.1.cell rfl
            have y2 := hf4.1.fr 2
            have HF4 := Lib.hid hf4
            have HK4 := Lib.hid hk4
            obtain ⟨P, hP⟩ : ∃ P, keepOf f k0 = P := ⟨_, rfl⟩
            rw [hP] at a1
            have HP := Lib.hid hP
            have hsl : (f.sure : Int) ≤ 1048576 := by have := HOF.out; have := this.1; have := HOF.out.2; omega
            clear hf4 hk4 hP
            have hcutw : ∀ (B : Bool), (f.old || decide (0 < P)) = B → ∃ w5, w4.setCell ⟨b, 2, none⟩ (.bool B) = w5 ∧ w5.cell? ⟨b, 2, none⟩ = some (.bool B) ∧ w5.cell? ⟨d, 0, none⟩ = some (.map (some m)) ∧ (∃ g : FV, g = cutF f k0 ∧ g.old = B ∧ ∃ L5, DiskIn w5 d m l1 L5 { x with files := done ++ (n, g) :: x.files.drop (i + 1) } ∧ Kp F w2 w5 ∧ ∀ k, DF d m L5 { x with files := done ++ (n, g) :: x.files.drop (i + 1) } k → F k ∨ w2.heap.size ≤ k) := by
              intro B hB
              have hb5 := HF4.out.1.set 2 (.bool B)
              have hk5 : Kp (· = b) w4 (w4.setCell ⟨b, 2, none⟩ (.bool B)) := (Kp.refl (· = b) w4).setCell (p := ⟨b, 2, none⟩) (fun _ => rfl) _
              have hg : cutF f k0 = ⟨f.bytes.take (f.sure + keepOf f k0), f.sure + keepOf f k0, B⟩ := by unfold cutF; rw [HP.out, hB]
              have hf5 : FileIn (w4.setCell ⟨b, 2, none⟩ (.bool B)) b (.slice Ab (f.sure + keepOf f k0) cb) (cutF f k0) := by
                rw [hg]
                exact ⟨hb5, HF4.out.2.kept hk5 (fun k hk e => HF4.out.ne (by rw [hk, e]))⟩
              have hu : FileUp wr (w4.setCell ⟨b, 2, none⟩ (.bool B)) (L1 n).1 (L1 n).2 (cutF f k0) := by
                rw [hb, HV.out]
                refine ⟨_, hf5, (HK4.out.trans' hk5).mono (fun k _ e => .inl e), fun k hk => .inl ((vblk_len Ab _ _ cb).trans hk)⟩
              obtain ⟨L5, h1, h2, h3⟩ := CrRel.turned HD1.out hu hofk HKP.out HFT.out
              exact ⟨_, rfl, hb5.cell rfl, Blk.cell h1.blk rfl, _, rfl, by rw [hg], L5, h1, h2, h3⟩
            have hgc : cutF f k0 = crash1 f (ks.headD 0) := by unfold crash1; rw [HW.out, show ks.headD 0 = k0 from by rw [← HKE.out]; rfl]; rfl
            have HGC := Lib.hid hgc
            have HNK : Hid (nextK f ks = ks.tail) := Lib.hid (by unfold nextK; rw [HW.out]; rfl)
            clear hofk hgc
            cases hold : f.old with
            | true =>
              rw [hold] at a2 hcutw
              obtain ⟨w5, hw5, t2, z5, g, hg, hgo, L5, hd5, hk5, hft5⟩ := hcutw true (by simp)
              have HD5 := Lib.hid hd5
              have HK5 := Lib.hid hk5
              have HFT5 := Lib.hid hft5
              have HG : Hid (g = crash1 f (ks.headD 0)) := Lib.hid (by rw [hg]; exact HGC.out)
              have HGO := Lib.hid hgo
              clear hg hd5 hk5 hft5 hold hgo
              go_wp2_with fail
              go_roundw
              case rel => exact ⟨i + 1, some ak, 0, ks.tail, by omega, by go_num, by rw [List.length_tail], by have := HKL.out; simp at this ⊢ <;> omega, (fun wz hz => ks_tail (HKR.out wz hz) (by omega) (.inl ⟨rfl, rfl⟩)), by rw [← HNK.out]; exact CrRel.step HXF.out HD5.out HCR.out HG.out HGO.out HK5.out HFT5.out⟩
              case measure => simp [intOf]; omega
            | false =>
              rw [hold] at a2 hcutw
              by_cases hp : 0 < P
              · have hpi : decide ((f.sure : Int) < (f.sure : Int) + (P : Int)) = true := by simp; omega
                obtain ⟨w5, hw5, t2, z5, g, hg, hgo, L5, hd5, hk5, hft5⟩ := hcutw true (by simp [hp])
                rw [← hpi] at hw5
                clear hpi
                have HD5 := Lib.hid hd5
                have HK5 := Lib.hid hk5
                have HFT5 := Lib.hid hft5
                have HG : Hid (g = crash1 f (ks.headD 0)) := Lib.hid (by rw [hg]; exact HGC.out)
                have HGO := Lib.hid hgo
                clear hg hd5 hk5 hft5 hold hgo hcutw
                go_wp2_with fail
                go_roundw
                case rel => exact ⟨i + 1, some ak, 0, ks.tail, by omega, by go_num, by rw [List.length_tail], by have := HKL.out; simp at this ⊢ <;> omega, (fun wz hz => ks_tail (HKR.out wz hz) (by omega) (.inl ⟨rfl, rfl⟩)), by rw [← HNK.out]; exact CrRel.step HXF.out HD5.out HCR.out HG.out HGO.out HK5.out HFT5.out⟩
                case measure => simp [intOf]; omega
              · have hpi : decide ((f.sure : Int) < (f.sure : Int) + (P : Int)) = false := by simp; omega
                obtain ⟨w5, hw5, t2, z5, g, hg, hgo, L5, hd5, hk5, hft5⟩ := hcutw false (by simp [hp])
                rw [← hpi] at hw5
                clear hpi
                have HD5 := Lib.hid hd5
                have HK5 := Lib.hid hk5
                have HFT5 := Lib.hid hft5
                have HG : Hid (g = crash1 f (ks.headD 0)) := Lib.hid (by rw [hg]; exact HGC.out)
                have HGO := Lib.hid hgo
                obtain ⟨w6, hrun, hm6, hk6⟩ := hd5.map.delete (P := Try.prog) key_dsk Try.underlying83 n 9 0
                have HM6 := Lib.hid hm6
                have HK6 := Lib.hid hk6
                have HFm := Lib.hid ((HF.out m).2 (.inr (.inl rfl)))
                clear hg hd5 hk5 hft5 hold hgo hm6 hk6 hcutw
                go_wp2_with fail
                try rw [hrun]
                try go_wp2_with fail
                go_roundw
                case rel => exact ⟨i + 1, some ak, 0, ks.tail, by omega, by go_num, by rw [List.length_tail], by have := HKL.out; simp at this ⊢ <;> omega, (fun wz hz => ks_tail (HKR.out wz hz) (by omega) (.inl ⟨rfl, rfl⟩)), by rw [← HNK.out]; exact CrRel.gone HXF.out HD5.out HM6.out HK6.out HCR.out HG.out HGO.out HK5.out HFm.out HFT5.out⟩
                case measure => simp [intOf]; omega
          · have HC1 := Lib.hid hc1
            have hc2 : (2 : Int) ≤ (c : Int) := by omega
            clear hc1
            go_wp2_with fail
            refine hwt.mono ?_
            rintro e w3 ⟨rfl, q, rfl⟩
            have hfi3 := hfi3 (q + 1)
            clear hwt
            go_wp2_with fail
            refine Reg.wp_region_plan [⟨0, false, []⟩, ⟨1, false, []⟩, ⟨2, false, []⟩, ⟨3, false, []⟩, ⟨4, false, []⟩, ⟨5, false, []⟩, ⟨6, false, []⟩] rfl (by kernel_rfl) ?_
            repeat (first | (refine Reg.look rfl rfl rfl (by go_simp; rfl) rfl ?_; go_simp) | (refine Reg.skip rfl rfl rfl ?_; go_simp))
            (refine Reg.done ?_; simp only [Exit.then])
            go_wp2_with fail
            all_goals
              -- the file is cut; old by what was kept
              have hofk := cutF_ok HOF.out k0
              refine (d_cut b Ab _ cb f k0 _ hfi3 HOF.out).mono ?_
              rintro e w4 ⟨rfl, hf4, hk4⟩
              have hk4 : Kp (· = b) wr w4 := ((Kp.refl (· = b) wr).drewN _).trans' hk4
              have a2 : w4.cell? ⟨b, 2, none⟩ = some (.bool f.old) := hf4.1.cell rfl
              have a1 : w4.cell? ⟨b, 1, none⟩ = some (.int .i64 ((f.sure + keepOf f k0 : Nat) : Int)) := hf4.1.cell rfl
              have y2 := hf4.1.fr 2
              have HF4 := Lib.hid hf4
              have HK4 := Lib.hid hk4
              obtain ⟨P, hP⟩ : ∃ P, keepOf f k0 = P := ⟨_, rfl⟩
              rw [hP] at a1
              have HP := Lib.hid hP
              have hsl : (f.sure : Int) ≤ 1048576 := by have := HOF.out; have := this.1; have := HOF.out.2; omega
              clear hf4 hk4 hP
              have hcutw : ∀ (B : Bool), (f.old || decide (0 < P)) = B → ∃ w5, w4.setCell ⟨b, 2, none⟩ (.bool B) = w5 ∧ w5.cell? ⟨b, 2, none⟩ = some (.bool B) ∧ w5.cell? ⟨d, 0, none⟩ = some (.map (some m)) ∧ (∃ g : FV, g = cutF f k0 ∧ g.old = B ∧ ∃ L5, DiskIn w5 d m l1 L5 { x with files := done ++ (n, g) :: x.files.drop (i + 1) } ∧ Kp F w2 w5 ∧ ∀ k, DF d m L5 { x with files := done ++ (n, g) :: x.files.drop (i + 1) } k → F k ∨ w2.heap.size ≤ k) := by
                intro B hB
                have hb5 := HF4.out.1.set 2 (.bool B)
                have hk5 : Kp (· = b) w4 (w4.setCell ⟨b, 2, none⟩ (.bool B)) := (Kp.refl (· = b) w4).setCell (p := ⟨b, 2, none⟩) (fun _ => rfl) _
                have hg : cutF f k0 = ⟨f.bytes.take (f.sure + keepOf f k0), f.sure + keepOf f k0, B⟩ := by unfold cutF; rw [HP.out, hB]
                have hf5 : FileIn (w4.setCell ⟨b, 2, none⟩ (.bool B)) b (.slice Ab (f.sure + keepOf f k0) cb) (cutF f k0) := by
                  rw [hg]
                  exact ⟨hb5, HF4.out.2.kept hk5 (fun k hk e => HF4.out.ne (by rw [hk, e]))⟩
                have hu : FileUp wr (w4.setCell ⟨b, 2, none⟩ (.bool B)) (L1 n).1 (L1 n).2 (cutF f k0) := by
                  rw [hb, HV.out]
                  refine ⟨_, hf5, (HK4.out.trans' hk5).mono (fun k _ e => .inl e), fun k hk => .inl ((vblk_len Ab _ _ cb).trans hk)⟩
                obtain ⟨L5, h1, h2, h3⟩ := CrRel.turned HD1.out hu hofk HKP.out HFT.out
                exact ⟨_, rfl, hb5.cell rfl, Blk.cell h1.blk rfl, _, rfl, by rw [hg], L5, h1, h2, h3⟩
              have hgc : cutF f k0 = crash1 f (ks.headD 0) := by unfold crash1; rw [HW.out, show ks.headD 0 = k0 from by rw [← HKE.out]; rfl]; rfl
              have HGC := Lib.hid hgc
              have HNK : Hid (nextK f ks = ks.tail) := Lib.hid (by unfold nextK; rw [HW.out]; rfl)
              clear hofk hgc
              cases hold : f.old with
              | true =>
                rw [hold] at a2 hcutw
                obtain ⟨w5, hw5, t2, z5, g, hg, hgo, L5, hd5, hk5, hft5⟩ := hcutw true (by simp)
                have HD5 := Lib.hid hd5
                have HK5 := Lib.hid hk5
                have HFT5 := Lib.hid hft5
                have HG : Hid (g = crash1 f (ks.headD 0)) := Lib.hid (by rw [hg]; exact HGC.out)
                have HGO := Lib.hid hgo
                clear hg hd5 hk5 hft5 hold hgo
                go_wp2_with fail
                go_roundw
                case rel => exact ⟨i + 1, some (ak.add 1), c - 1, ks.tail, by omega, by go_num, by rw [List.length_tail]; unfold Addr.add; split <;> simp_all, by have := HKL.out; simp at this ⊢ <;> omega, (fun wz hz => ks_tail (HKR.out wz hz) (by omega) (.inr ⟨rfl, rfl⟩)), by rw [← HNK.out]; exact CrRel.step HXF.out HD5.out HCR.out HG.out HGO.out HK5.out HFT5.out⟩
                case measure => simp [intOf]; omega
              | false =>
                rw [hold] at a2 hcutw
                by_cases hp : 0 < P
                · have hpi : decide ((f.sure : Int) < (f.sure : Int) + (P : Int)) = true := by simp; omega
                  obtain ⟨w5, hw5, t2, z5, g, hg, hgo, L5, hd5, hk5, hft5⟩ := hcutw true (by simp [hp])
                  rw [← hpi] at hw5
                  clear hpi
                  have HD5 := Lib.hid hd5
                  have HK5 := Lib.hid hk5
                  have HFT5 := Lib.hid hft5
                  have HG : Hid (g = crash1 f (ks.headD 0)) := Lib.hid (by rw [hg]; exact HGC.out)
                  have HGO := Lib.hid hgo
                  clear hg hd5 hk5 hft5 hold hgo hcutw
                  go_wp2_with fail
                  go_roundw
                  case rel => exact ⟨i + 1, some (ak.add 1), c - 1, ks.tail, by omega, by go_num, by rw [List.length_tail]; unfold Addr.add; split <;> simp_all, by have := HKL.out; simp at this ⊢ <;> omega, (fun wz hz => ks_tail (HKR.out wz hz) (by omega) (.inr ⟨rfl, rfl⟩)), by rw [← HNK.out]; exact CrRel.step HXF.out HD5.out HCR.out HG.out HGO.out HK5.out HFT5.out⟩
                  case measure => simp [intOf]; omega
                · have hpi : decide ((f.sure : Int) < (f.sure : Int) + (P : Int)) = false := by simp; omega
                  obtain ⟨w5, hw5, t2, z5, g, hg, hgo, L5, hd5, hk5, hft5⟩ := hcutw false (by simp [hp])
                  rw [← hpi] at hw5
                  clear hpi
                  have HD5 := Lib.hid hd5
                  have HK5 := Lib.hid hk5
                  have HFT5 := Lib.hid hft5
                  have HG : Hid (g = crash1 f (ks.headD 0)) := Lib.hid (by rw [hg]; exact HGC.out)
                  have HGO := Lib.hid hgo
                  obtain ⟨w6, hrun, hm6, hk6⟩ := hd5.map.delete (P := Try.prog) key_dsk Try.underlying83 n 9 0
                  have HM6 := Lib.hid hm6
                  have HK6 := Lib.hid hk6
                  have HFm := Lib.hid ((HF.out m).2 (.inr (.inl rfl)))
                  clear hg hd5 hk5 hft5 hold hgo hm6 hk6 hcutw
                  go_wp2_with fail
                  try rw [hrun]
                  try go_wp2_with fail
                  go_roundw
                  case rel => exact ⟨i + 1, some (ak.add 1), c - 1, ks.tail, by omega, by go_num, by rw [List.length_tail]; unfold Addr.add; split <;> simp_all, by have := HKL.out; simp at this ⊢ <;> omega, (fun wz hz => ks_tail (HKR.out wz hz) (by omega) (.inr ⟨rfl, rfl⟩)), by rw [← HNK.out]; exact CrRel.gone HXF.out HD5.out HM6.out HK6.out HCR.out HG.out HGO.out HK5.out HFm.out HFT5.out⟩
                  case measure => simp [intOf]; omega
      · have hwi : (f.bytes.length : Int) - (f.sure : Int) = 0 := by unfold waits at hw; simp at hw; have := HOF.out.1; omega
        rw [hwi] at hwt
        have hw : waits f = false := by simpa using hw
        have HW := Lib.hid hw
        have b2 : wr.cell? ⟨b, 2, none⟩ = some (.bool f.old) := (hfi3 0).1.cell rfl
        clear hw
        go_wp2_with fail
        refine hwt.mono ?_
        rintro e w3 ⟨rfl, q, rfl⟩
        clear hwt
        have HG : Hid (f = crash1 f (ks.headD 0)) := Lib.hid (by unfold crash1; rw [HW.out]; rfl)
        have HNK : Hid (nextK f ks = ks) := Lib.hid (by unfold nextK; rw [HW.out]; rfl)
        have HKQ : Hid (Kp F w2 (wr.drewN q)) := Lib.hid (HKP.out.drewN q)
        have HDQ : Hid (DiskIn (wr.drewN q) d m l1 L1 { x with files := done ++ (n, f) :: x.files.drop (i + 1) }) := Lib.hid (HD1.out.kept (S := No) ((Kp.refl _ _).drewN q) (fun _ _ x => x))
        cases hold : f.old with
        | true =>
          rw [hold] at b2
          have HO := Lib.hid hold
          clear hold
          go_wp2_with fail
          go_roundw
          case rel => exact ⟨i + 1, A, c, ks, by omega, by go_num, rfl, HKL.out, HKR.out, by rw [← HNK.out]; exact CrRel.step HXF.out HDQ.out HCR.out HG.out HO.out HKQ.out HFT.out⟩
          case measure => simp [intOf]; omega
        | false =>
          rw [hold] at b2
          have HO := Lib.hid hold
          obtain ⟨w6, hrun, hm6, hk6⟩ := HDQ.out.map.delete (P := Try.prog) key_dsk Try.underlying83 n 9 0
          have HM6 := Lib.hid hm6
          have HK6 := Lib.hid hk6
          have HFm := Lib.hid ((HF.out m).2 (.inr (.inl rfl)))
          clear hold hm6 hk6
          go_wp2_with fail
          try rw [hrun]
          try go_wp2_with fail
          go_roundw
          case rel => exact ⟨i + 1, A, c, ks, by omega, by go_num, rfl, HKL.out, HKR.out, by rw [← HNK.out]; exact CrRel.gone HXF.out HDQ.out HM6.out HK6.out HCR.out HG.out HO.out HKQ.out HFm.out HFT.out⟩
          case measure => simp [intOf]; omega
    · obtain rfl : i = N.length := by omega
      have z1 : wr.cell? ⟨d, 1, none⟩ = some _ := Blk.cell HD1.out.blk rfl
      have z2 : wr.cell? ⟨d, 2, none⟩ = some _ := Blk.cell HD1.out.blk rfl
      have y1 := Blk.fr HD1.out.blk 1
      have y2 := Blk.fr HD1.out.blk 2
      go_wp2_with fail
      go_end0
      have e0 : x.files.drop N.length = [] := List.drop_eq_nil_of_le (by rw [HNX.out]; exact Nat.le_refl _)
      have hd := HD1.out
      have hft := HFT.out
      have hcr := HCR.out
      rw [e0, List.append_nil] at hd hft
      rw [e0] at hcr
      have hcr : crashF x.files ks0 = done := by simpa [crashF] using hcr
      subst hcr
      have hk : Kp (· = d) wr ((wr.setCell ⟨d, 1, none⟩ (.int .i64 (-1))).setCell ⟨d, 2, none⟩ (.bool false)) := ((Kp.refl (· = d) wr).setCell (p := ⟨d, 1, none⟩) (fun _ => rfl) _).setCell (p := ⟨d, 2, none⟩) (fun _ => rfl) _
      have hd2 := hd.turned hk (y := crashD ks0 x) ((Blk.set hd.blk 1 (.int .i64 (-1))).set 2 (.bool false)) rfl (crashD_ok H.out.ok ks0)
      refine ⟨rfl, _, ⟨m, l1, L1, hd2, fun k => Iff.rfl⟩, ((HK2.out.any (S := F)).trans' HKP.out).trans' (hk.mono fun k _ e => (HF.out k).2 (.inl e)), fun k hk => ?_⟩
      rcases hft k hk with h1 | h1
      · exact .inl h1
      · right; omega
end Go.Proofs.Ytflodiljgphkdaa
