/-
  disk: Flip; Names.
-/
import Derived.Test.YtflodiljgphkdaaGreatDisk8
import Derived.Test.YtflodiljgphkdaaGreatSort
namespace Go.Proofs.YtflodiljgphkdaaGreat
open Go.RowKit Go.ChangeShapes Go.WideShapes Go.ChangeAt

set_option maxRecDepth 100000 in
theorem s_prefix (s p : ByteArray) (w : World) : Calls Tryz.prog 87 #[.string s, .string p] w fun e w' => e = .returned (.bool (prefixed p s)) ∧ w' = w := by
  go_enter Tryz.func87, Tryz.ntmps87
  go_wp2_with fail
  · have h : p.size ≤ s.size := by assumption
    go_ret
    refine ⟨congrArg (fun b => Ending.returned (Value.bool b)) ?_, rfl⟩
    show ((s.extract 0 p.size).toList == p.toList) = prefixed p s
    unfold prefixed
    rw [ByteArray.toList_eq, ByteArray.toList_eq, Bool.eq_iff_iff, beq_iff_eq, List.isPrefixOf_iff_prefix, List.prefix_iff_eq_take]
    simp only [ByteArray.data_extract, Array.toList_extract, List.extract_eq_take_drop, List.drop_zero, Nat.sub_zero, data_length]
    exact eq_comm
  · have h : ¬ p.size ≤ s.size := by assumption
    go_ret
    refine ⟨congrArg (fun b => Ending.returned (Value.bool b)) ?_, rfl⟩
    show false = prefixed p s
    unfold prefixed
    symm
    rw [Bool.eq_false_iff, ne_eq, List.isPrefixOf_iff_prefix]
    intro hp
    have := hp.length_le
    rw [data_length, data_length] at this
    exact h this
set_option maxRecDepth 100000 in
theorem s_hasPrefix (s p : ByteArray) (w : World) : Calls Tryz.prog 59 #[.string s, .string p] w fun e w' => e = .returned (.bool (prefixed p s)) ∧ w' = w := by
  go_enter Tryz.func59, Tryz.ntmps59
  go_wp2_with fail
  refine (s_prefix s p w).mono ?_
  rintro e w2 ⟨rfl, rfl⟩
  go_wp2_with fail
  go_ret
  exact ⟨rfl, rfl⟩
theorem xor_bit (z : UInt8) (r : Nat) (hr : r < 8) : Value.int .u8 (bits .xor .u8 (z.toNat : Int) (2 ^ r % 256)) = byteOf (z ^^^ UInt8.ofNat (1 <<< r)) := by
  have : ∀ (r : Fin 8) (Z : Fin 256), bits .xor .u8 (Z.val : Int) (2 ^ r.val % 256) = ((UInt8.ofNat Z.val ^^^ UInt8.ofNat (1 <<< r.val)).toNat : Int) := by decide +kernel
  have h := this ⟨r, hr⟩ ⟨z.toNat, UInt8.toNat_lt z⟩
  simp only [UInt8.ofNat_toNat] at h
  unfold byteOf
  rw [h]
theorem flipB_set (l : List UInt8) (k : Nat) (h : k / 8 < l.length) : flipB l k = l.set (k / 8) (l[k / 8] ^^^ UInt8.ofNat (1 <<< (k % 8))) := by
  unfold flipB
  apply List.ext_getElem?
  intro i
  rw [List.getElem?_modify, List.getElem?_set]
  by_cases e : k / 8 = i
  · subst e; simp [h]
  · simp [e]
set_option maxRecDepth 100000 in
set_option maxHeartbeats 1000000 in
theorem d_flip (d : Nat) (x : DV) (F : Nat → Prop) (n : ByteArray) (b : Int) (w : World) (h : DiskAt w d x F) (hb : (Lit.int .i64 b).wf = true) :
    Calls Tryz.prog 14 #[.pointer (some ⟨d, 0, none⟩), .string n, .int .i64 b] w fun e w' => e = .returned (.int .i64 (flipD n b x).1) ∧ ∃ F', DiskAt w' d (flipD n b x).2 F' ∧ Upd F w w' F' := by
  obtain ⟨m, l, L, h, hF⟩ := h
  have H := Lib.hid h
  have HF := Lib.hid hF
  clear h hF
  have d0 : w.cell? ⟨d, 0, none⟩ = some _ := Blk.cell H.out.blk rfl
  have hlook := H.out.map.look_ok (P := Tryz.prog) key_dsk Tryz.underlying64 n (zero_filep w)
  rw [H.out.ents n] at hlook
  obtain ⟨Z, hZ⟩ : ∃ Z, flipD n b x = Z := ⟨_, rfl⟩
  rw [hZ]
  unfold flipD fileD at hZ
  cases hf : mget n x.files with
  | none =>
    rw [hf] at hlook hZ
    simp only [Option.map_none, Option.getD_none, Option.isSome_none] at hlook
    simp only at hZ
    subst hZ
    clear hf
    go_enter Tryz.func14, Tryz.ntmps14
    go_wp2_with fail
    go_ret
    exact ⟨rfl, F, ⟨m, l, L, H.out, HF.out⟩, Kp.refl _ _, fun k hk => .inl hk⟩
  | some f =>
    rw [hf] at hlook hZ
    simp only [Option.map_some, Option.getD_some, Option.isSome_some] at hlook
    simp only at hZ
    have hfi := H.out.file n f hf
    obtain ⟨A, c, hv, hlc, hcm⟩ := hfi.2.shape
    have p0 : w.cell? ⟨(L n).1, 0, none⟩ = some _ := hfi.1.cell rfl
    rw [hv] at p0
    have HFI := Lib.hid hfi
    have HV := Lib.hid hv
    have HF0 := Lib.hid hf
    clear hfi hv hf
    by_cases hb0 : b < 0
    · rw [if_pos (.inl hb0)] at hZ
      subst hZ
      go_enter Tryz.func14, Tryz.ntmps14
      go_wp2_with fail
      go_ret
      exact ⟨rfl, F, ⟨m, l, L, H.out, HF.out⟩, Kp.refl _ _, fun k hk => .inl hk⟩
    · obtain ⟨k, rfl⟩ : ∃ k : Nat, b = (k : Int) := ⟨b.toNat, by omega⟩
      have hku : (k : Int) ≤ 9223372036854775807 := (wf64 hb).2
      have hk0 : (0 : Int) ≤ (k : Int) := by omega
      clear hb
      by_cases hb1 : f.bytes.length ≤ k / 8
      · rw [if_pos (.inr (by omega))] at hZ
        subst hZ
        have hb1i : (f.bytes.length : Int) ≤ (k : Int) / 8 := by omega
        go_enter Tryz.func14, Tryz.ntmps14
        go_wp2_with fail
        go_ret
        exact ⟨rfl, F, ⟨m, l, L, H.out, HF.out⟩, Kp.refl _ _, fun k hk => .inl hk⟩
      · have hb1i : (k : Int) / 8 < (f.bytes.length : Int) := by omega
        have hb8 : (0 : Int) ≤ (k : Int) / 8 := by omega
        have hw1 : IntKind.i64.wrap ((k : Int) / 8) = (k : Int) / 8 := wrap_i64 (by omega) (by omega)
        obtain ⟨r, hr⟩ : ∃ r : Nat, k % 8 = r := ⟨_, rfl⟩
        have hm8 : (k : Int).tmod 8 = (r : Int) := by rw [Int.tmod_eq_emod_of_nonneg hk0]; omega
        have hr8 : (r : Int) < 8 := by omega
        have HR := Lib.hid hr
        clear hr
        have ht8 : ((k : Int) / 8).toNat = k / 8 := by omega
        obtain ⟨g, hA, hvb, hcell, hfr⟩ := (show Buf w 5 (.slice A f.bytes.length c) f.bytes by rw [← HV.out]; exact HFI.out.2).cell (i := k / 8) (by omega)
        subst hA
        obtain ⟨z, hz⟩ : ∃ z, f.bytes[k / 8] = z := ⟨_, rfl⟩
        rw [hz] at hcell
        unfold byteOf at hcell
        have HZZ := Lib.hid hz
        clear hz
        rw [if_neg (by omega)] at hZ
        subst hZ
        go_enter Tryz.func14, Tryz.ntmps14
        go_wp2_with fail
        refine Reg.wp_region_plan [⟨0, false, []⟩, ⟨1, false, []⟩, ⟨2, false, []⟩, ⟨3, false, []⟩, ⟨4, false, []⟩, ⟨5, false, []⟩, ⟨6, false, []⟩, ⟨7, false, []⟩, ⟨8, false, []⟩, ⟨9, false, []⟩, ⟨10, false, []⟩, ⟨11, false, []⟩, ⟨12, false, []⟩, ⟨13, false, []⟩, ⟨14, true, []⟩] rfl (by kernel_rfl) ?_
        repeat (first | (refine Reg.look rfl rfl rfl (by go_simp; rfl) rfl ?_; go_simp) | (refine Reg.skip rfl rfl rfl ?_; go_simp))
        refine Reg.act rfl ?_
        go_wp2_with fail
        refine ⟨Reg.anew_nil, ?_⟩
        (refine Reg.done ?_; simp only [Exit.then])
        go_wp2_with fail
        go_ret
        refine ⟨rfl, ?_⟩
        have hx := HFI.out
        have hvv := HV.out
        have hki : k / 8 < f.bytes.length := by omega
        have hbuf : Buf w 5 (.slice (some ⟨g, 0, none⟩) f.bytes.length c) f.bytes := by rw [← hvv]; exact hx.2
        rw [xor_bit z r (by omega)]
        have hk1 : Kp (fun i => vblk (L n).2 = some i) w (w.setCell ⟨g, k / 8, none⟩ (byteOf (z ^^^ UInt8.ofNat (1 <<< r)))) := (Kp.refl _ w).setCell (p := ⟨g, k / 8, none⟩) (fun _ => by rw [hvv]; exact hvb) _
        have hfl : flipB f.bytes k = f.bytes.set (k / 8) (z ^^^ UInt8.ofNat (1 <<< r)) := by rw [← HZZ.out, ← HR.out]; exact flipB_set f.bytes k hki
        have hu : FileUp w (w.setCell ⟨g, k / 8, none⟩ (byteOf (z ^^^ UInt8.ofNat (1 <<< r)))).drew (L n).1 (L n).2 { f with bytes := flipB f.bytes k } := by
          have hb1 : Blk (w.setCell ⟨g, k / 8, none⟩ (byteOf (z ^^^ UInt8.ofNat (1 <<< r)))).drew (L n).1 97 [(L n).2, .int .i64 (f.sure : Int), .bool f.old] := hx.1.kept hk1.drew hx.ne
          refine FileUp.of ⟨hb1, ?_⟩ ((hk1.mono fun i _ h => .inr h).drew)
          rw [hfl]
          have := hbuf.set (i := k / 8) hki (z ^^^ UInt8.ofNat (1 <<< r))
          rw [hvv]
          exact this
        obtain ⟨L', h1, h2, h3⟩ := H.out.turn (f := f) HF0.out hu ⟨by show _ ≤ (flipB _ _).length; rw [flipB_length]; exact (H.out.ok.at (n := n) HF0.out).1.1, by show (flipB _ _).length ≤ _; rw [flipB_length]; exact (H.out.ok.at (n := n) HF0.out).1.2⟩
        exact ⟨_, ⟨m, l, L', h1, fun k => Iff.rfl⟩, h2.mono (fun k _ hk => (HF.out k).2 hk), fun k hk => (h3 k hk).imp (fun h => (HF.out k).2 h) id⟩
end Go.Proofs.YtflodiljgphkdaaGreat
