/-
  disk.Append.
-/
import Derived.Test.YtflodiljgphkdaaGreatDisk6a
namespace Go.Proofs.YtflodiljgphkdaaGreat
open Go.RowKit Go.ChangeShapes Go.WideShapes Go.ChangeAt

theorem appendD_go {n s : ByteArray} {x : DV} {f : FV} (hf : (fileD n x).getD ⟨[], 0, false⟩ = f) {Z : Int × DV}
    (hZ : (if (0 : Int) ≠ 0 then ((0 : Int), x) else
      let f := (fileD n x).getD ⟨[], 0, false⟩
      if 1048576 < f.bytes.length + s.size then (52, x) else stepD x fun y => { y with files := ins n { f with bytes := f.bytes ++ s.data.toList } y.files }) = Z) :
    Z = if 1048576 < f.bytes.length + s.size then (52, x) else stepD x fun y => { y with files := ins n { f with bytes := f.bytes ++ s.data.toList } y.files } := by
  subst hf
  rw [← hZ, if_neg (by simp)]

set_option maxRecDepth 100000 in
set_option maxHeartbeats 1000000 in
theorem d_append (d : Nat) (x : DV) (F : Nat → Prop) (n s : ByteArray) (w : World) (h : DiskAt w d x F) :
    Calls Tryz.prog 39 #[.pointer (some ⟨d, 0, none⟩), .string n, .string s] w fun e w' => e = .returned (.int .i64 (appendD n s x).1) ∧ ∃ F', DiskAt w' d (appendD n s x).2 F' ∧ Upd F w w' F' := by
  obtain ⟨m, l, L, h, hF⟩ := h
  have H := Lib.hid h
  have HF := Lib.hid hF
  have hlt := h.lt
  clear h hF
  have hready := fun w' h' => d_ready d m x n w' h'
  obtain ⟨R, hR⟩ : ∃ R, readyD n x = R := ⟨_, rfl⟩
  rw [hR] at hready
  obtain ⟨Z, hZ⟩ : ∃ Z, appendD n s x = Z := ⟨_, rfl⟩
  rw [hZ]
  unfold appendD at hZ
  rw [hR] at hZ
  have HZ := Lib.hid hZ
  clear hZ
  go_enter Tryz.func39, Tryz.ntmps39
  go_wp2_with fail
  obtain ⟨w1, hw1⟩ : ∃ w1, ((w.alloc (.cells #[.pointer (some ⟨d, 0, none⟩)] 26)).alloc (.cells #[.string n] 9)).alloc (.cells #[.string s] 9) = w1 := ⟨_, rfl⟩
  have HB0 : Hid (Blk w1 w.heap.size 26 [.pointer (some ⟨d, 0, none⟩)]) := Lib.hid (by rw [← hw1]; exact ((Blk.new w [_] _).kept (S := No) ((Kp.refl _ _).alloc _) (fun x => x)).kept (S := No) ((Kp.refl _ _).alloc _) (fun x => x))
  have HB1 : Hid (Blk w1 (w.heap.size + 1) 9 [.string n]) := Lib.hid (by
    rw [← hw1]
    have h := (Blk.new (w.alloc (.cells #[.pointer (some ⟨d, 0, none⟩)] 26)) [.string n] 9).kept (S := No) ((Kp.refl _ _).alloc (.cells #[.string s] 9)) (fun x => x)
    simpa using h)
  have HB2 : Hid (Blk w1 (w.heap.size + 1 + 1) 9 [.string s]) := Lib.hid (by
    rw [← hw1]
    have h := Blk.new ((w.alloc (.cells #[.pointer (some ⟨d, 0, none⟩)] 26)).alloc (.cells #[.string n] 9)) [.string s] 9
    simpa using h)
  have HK1 : Hid (Kp No w w1) := Lib.hid (by rw [← hw1]; exact (((Kp.refl _ _).alloc _).alloc _).alloc _)
  have HD1 := Lib.hid (H.out.kept HK1.out (fun _ _ x => x))
  rw [hw1]
  clear hw1
  refine (hready w1 HD1.out.blk).mono ?_
  rintro e w2 ⟨rfl, hk2⟩
  have HB0 := Lib.hid (HB0.out.kept hk2 (fun x => x))
  have HB1 := Lib.hid (HB1.out.kept hk2 (fun x => x))
  have HB2 := Lib.hid (HB2.out.kept hk2 (fun x => x))
  have HD2 := Lib.hid (HD1.out.kept hk2 (fun _ _ x => x))
  have HK2 := Lib.hid (HK1.out.trans' hk2)
  clear hk2 hready
  by_cases hr0 : R = 0
  · subst hr0
    have HR := Lib.hid hR
    clear hR
    obtain ⟨b0, hb0⟩ : ∃ b0, w.heap.size = b0 := ⟨_, rfl⟩
    rw [hb0] at HB0 HB1 HB2
    have c0 : w2.cell? ⟨b0, 0, none⟩ = some _ := HB0.out.cell rfl
    have c1 : w2.cell? ⟨b0 + 1, 0, none⟩ = some _ := HB1.out.cell rfl
    have c2 : w2.cell? ⟨b0 + 1 + 1, 0, none⟩ = some _ := HB2.out.cell rfl
    have d0 : w2.cell? ⟨d, 0, none⟩ = some _ := Blk.cell HD2.out.blk rfl
    have hmd : ∀ w', Kp No w2 w' → (Instr.lookup 64 (.map (some m)) (.string n) true).run Tryz.prog w' = _ := fun w' hk => (HD2.out.map.kept hk (fun x => x)).look_ok (P := Tryz.prog) key_dsk Tryz.underlying64 n (zero_filep w')
    simp only [HD2.out.ents n] at hmd
    have hk21 : Kp No w2 w2.drew := (Kp.refl _ _).drew
    have hk22 : Kp No w2 (w2.alloc (.cells #[.pointer none] 92)) := (Kp.refl _ _).alloc _
    have hlook1 := hmd _ hk21
    have hlook2 := hmd _ hk22.drew
    have e0 : (w2.alloc (.cells #[.pointer none] 92)).cell? ⟨b0, 0, none⟩ = some _ := (HB0.out.kept hk22 (fun x => x)).cell rfl
    have e1 : (w2.alloc (.cells #[.pointer none] 92)).cell? ⟨b0 + 1, 0, none⟩ = some _ := (HB1.out.kept hk22 (fun x => x)).cell rfl
    have e2 : (w2.alloc (.cells #[.pointer none] 92)).cell? ⟨d, 0, none⟩ = some _ := Blk.cell (Blk.kept HD2.out.blk hk22 (fun x => x)) rfl
    clear hmd hk21 hk22
    cases hfile : mget n x.files with
    | none =>
      rw [hfile] at hlook1 hlook2
      simp only [Option.map_none, Option.getD_none, Option.isSome_none] at hlook1 hlook2
      go_wp2_with fail
      refine Reg.wp_region_plan [⟨0, false, []⟩, ⟨1, false, []⟩, ⟨2, false, []⟩, ⟨3, false, []⟩, ⟨4, false, []⟩, ⟨5, false, []⟩, ⟨6, false, []⟩, ⟨7, false, []⟩, ⟨8, false, []⟩, ⟨9, true, [0, 1, 2, 3, 4, 5, 7, 8]⟩, ⟨10, true, [8]⟩, ⟨11, false, []⟩] rfl (by kernel_rfl) ?_
      repeat (first | (refine Reg.look rfl rfl rfl (by go_simp; rfl) rfl ?_; go_simp) | (refine Reg.skip rfl rfl rfl ?_; go_simp))
      refine Reg.act rfl ?_
      go_wp2_with fail
      (refine ⟨?anew, ?_⟩; case anew => ((repeat (refine Reg.anew_cons rfl rfl (fun _ => by go_simp) ?_)); exact Reg.anew_nil))
      clear e0 e1 e2 hlook1 hlook2
      refine Reg.act rfl ?_
      go_wp2_with fail
      (refine ⟨?anew, ?_⟩; case anew => ((repeat (refine Reg.anew_cons rfl rfl (fun _ => by go_simp) ?_)); exact Reg.anew_nil))
      repeat (first | (refine Reg.look rfl rfl rfl (by go_simp; rfl) rfl ?_; go_simp) | (refine Reg.skip rfl rfl rfl ?_; go_simp))
      (refine Reg.done ?_; simp only [Exit.then])
      go_wp2_with fail
      clear c0 c1 c2 d0
      obtain ⟨w3, hw3⟩ : ∃ w3, ((w2.alloc (.cells #[.pointer (some ⟨w2.heap.size + 1, 0, none⟩)] 92)).alloc (.cells #[.slice none 0 0, .int .i64 0, .bool false] 97)).drew = w3 := ⟨_, rfl⟩
      have hk3 : Kp No w2 w3 := by rw [← hw3]; exact (((Kp.refl _ _).alloc _).alloc _).drew
      have hall : ∃ FB V fl, Blk w3 w2.heap.size 92 [.pointer (some ⟨FB, 0, none⟩)] ∧ FileIn w3 FB V fl ∧ (fileD n x).getD ⟨[], 0, false⟩ = fl ∧ OkF fl ∧ (∀ n' f', n' ≠ n → mget n' x.files = some f' → ∀ k, FF (L n').1 (L n').2 k → ¬ FF FB V k) ∧ ∀ k, FF FB V k → DF d m L x k ∨ w.heap.size ≤ k := by
        refine ⟨w2.heap.size + 1, .slice none 0 0, ⟨[], 0, false⟩, ?_, ⟨?_, Buf.nil _ _⟩, by unfold fileD; rw [hfile]; rfl, ⟨Nat.le_refl _, by show (0 : Nat) ≤ _; omega⟩, ?_, ?_⟩
        · have h := (Blk.new w2 [.pointer (some ⟨w2.heap.size + 1, 0, none⟩)] 92).kept (S := No) ((Kp.refl _ _).alloc (.cells #[.slice none 0 0, .int .i64 0, .bool false] 97)) (fun x => x)
          rw [← hw3]; exact h
        · have h := Blk.new (w2.alloc (.cells #[.pointer (some ⟨w2.heap.size + 1, 0, none⟩)] 92)) [.slice none 0 0, .int .i64 0, .bool false] 97
          have e1 : (w2.alloc (.cells #[.pointer (some ⟨w2.heap.size + 1, 0, none⟩)] 92)).heap.size = w2.heap.size + 1 := by simp
          rw [e1] at h
          rw [← hw3]; exact h
        · rintro n' f' _ hf' k hk (rfl | hk2)
          · have := (HD2.out.file n' f' hf').lt _ hk; omega
          · cases hk2
        · rintro k (rfl | hk2)
          · have := HK2.out.size; right; omega
          · cases hk2
      have HB3 := Lib.hid ((HB2.out.kept hk3 (fun x => x)))
      have HBd := Lib.hid ((HB0.out.kept hk3 (fun x => x)))
      have HBn := Lib.hid ((HB1.out.kept hk3 (fun x => x)))
      have HD3 := Lib.hid (HD2.out.kept hk3 (fun _ _ x => x))
      have HK3 := Lib.hid (HK2.out.trans' hk3)
      rw [hw3]
      obtain ⟨g, hg⟩ : ∃ g, w2.heap.size = g := ⟨_, rfl⟩
      rw [hg] at hall
      obtain ⟨FB, V, fl, hG, hFl, hfl, hof, hap, hft⟩ := hall
      rw [hg]
      clear hw3 hk3
      have hz := appendD_go hfl HZ.out
      have HZ := Lib.hid hz
      obtain ⟨A, c, rfl, _⟩ := hFl.2.shape
      have HG := Lib.hid hG
      have HFl := Lib.hid hFl
      have HAP := Lib.hid hap
      have HFT := Lib.hid hft
      have g0 : w3.cell? ⟨g, 0, none⟩ = some _ := hG.cell rfl
      have s0 : w3.cell? ⟨b0 + 1 + 1, 0, none⟩ = some _ := HB3.out.cell rfl
      have p0 : w3.cell? ⟨FB, 0, none⟩ = some _ := hFl.1.cell rfl
      have q0 : w3.cell? ⟨b0, 0, none⟩ = some _ := HBd.out.cell rfl
      have hlen := hof.2
      have hwr : IntKind.i64.wrap (1048576 - (fl.bytes.length : Int)) = 1048576 - (fl.bytes.length : Int) := wrap_i64 (by omega) (by omega)
      clear hG hFl hap hft hfl
      by_cases hbig : 1048576 < fl.bytes.length + s.size
      · have hb : 1048576 - (fl.bytes.length : Int) < (s.size : Int) := by omega
        rw [if_pos hbig] at hz
        subst hz
        refine Reg.wp_region_plan [⟨0, false, []⟩, ⟨1, false, []⟩, ⟨2, false, []⟩, ⟨3, false, []⟩, ⟨4, false, []⟩, ⟨5, false, []⟩, ⟨6, false, []⟩, ⟨7, false, []⟩, ⟨8, false, []⟩, ⟨9, false, []⟩] rfl (by kernel_rfl) ?_
        repeat (first | (refine Reg.look rfl rfl rfl (by go_simp; rfl) rfl ?_; go_simp) | (refine Reg.skip rfl rfl rfl ?_; go_simp))
        (refine Reg.done ?_; simp only [Exit.then])
        go_wp2_with fail
        go_ret
        exact ⟨rfl, F, ⟨m, l, L, HD3.out.drew, HF.out⟩, HK3.out.any.drew, fun k hk => .inl hk⟩
      · have hb : (s.size : Int) ≤ 1048576 - (fl.bytes.length : Int) := by omega
        rw [if_neg hbig] at hz
        unfold stepD at hz
        refine Reg.wp_region_plan [⟨0, false, []⟩, ⟨1, false, []⟩, ⟨2, false, []⟩, ⟨3, false, []⟩, ⟨4, false, []⟩, ⟨5, false, []⟩, ⟨6, false, []⟩, ⟨7, false, []⟩, ⟨8, false, []⟩, ⟨9, false, []⟩] rfl (by kernel_rfl) ?_
        repeat (first | (refine Reg.look rfl rfl rfl (by go_simp; rfl) rfl ?_; go_simp) | (refine Reg.skip rfl rfl rfl ?_; go_simp))
        (refine Reg.done ?_; simp only [Exit.then])
        by_cases hfu : x.fuse = 0
        · rw [if_pos hfu] at hz
          subst hz
          have HFU := Lib.hid hfu
          clear hfu
          go_wp2_with fail
          refine (d_step_out d m x _ w3.drew HD3.out.blk HFU.out).mono ?_
          rintro e w4 ⟨rfl, hb4, hk4⟩
          have hk4 : Kp (· = d) w3 w4 := ((Kp.refl _ w3).drew).trans' hk4
          have HD4 := Lib.hid (HD3.out.turned hk4 hb4 rfl (HD3.out.ok.off true))
          have HK4 := Lib.hid (HK3.out.any.trans' (hk4.mono (fun k _ e => (HF.out k).2 (.inl e))))
          clear hb4 hk4
          go_wp2_with fail
          go_ret
          exact ⟨rfl, F, ⟨m, l, L, HD4.out, fun k => HF.out k⟩, HK4.out, fun k hk => .inl hk⟩
        · rw [if_neg hfu] at hz
          have HZ2 := Lib.hid hz
          have HFU := Lib.hid hfu
          have HO := Lib.hid hof
          have HBI := Lib.hid hbig
          clear hz hfu
          go_wp2_with fail
          refine (d_step d m 70 _ x w3.drew HD3.out.blk HD3.out.ok HFU.out (enters_of Tryz.func70 (by kernel_rfl) rfl) (fun w' => ∃ F', DiskAt w' d Z.2 F' ∧ Upd F w w' F') ?_).mono ?_
          · intro w4 hb4 hk4 hs4
            have hk4 : Kp (· = d) w3 w4 := ((Kp.refl _ w3).drew).trans' hk4
            have hd4 := HD3.out.turned hk4 hb4 rfl HD3.out.ok.stepped
            have hnd : ∀ {g e vs}, Blk w3 g e vs → e ≠ 66 → Blk w4 g e vs := fun h he => h.kept hk4 (blk_ne_blk h HD3.out.blk he)
            have hf4 := HFl.out.kept hk4 (fun k hk e => HFl.out.ne_d HD3.out.blk k hk e)
            refine (d_append1 g (b0 + 1 + 1) b0 (b0 + 1) d m FB _ fl (stepped x) l n s w4 (hnd HG.out (by decide)) (hnd HB3.out (by decide)) (hnd HBd.out (by decide)) (hnd HBn.out (by decide)) hb4 hd4.map hf4 (by have := HBI.out; omega)).mono ?_
            rintro e w5 ⟨rfl, hm5, ⟨v5, hf5, hn5⟩, hk5⟩
            refine ⟨rfl, ?_⟩
            rw [HZ2.out]
            have h80 := (readyD_fine HR.out).2.2
            have hs3 := HK3.out.size
            have hs4 : w4.heap.size = w3.heap.size := hs4
            have hof5 : OkF { fl with bytes := fl.bytes ++ s.data.toList } := ⟨by show fl.sure ≤ (fl.bytes ++ s.data.toList).length; rw [List.length_append]; have := HO.out.1; omega, by show (fl.bytes ++ s.data.toList).length ≤ _; rw [List.length_append, data_length]; have := HBI.out; omega⟩
            have hd5 := hd4.assign n FB v5 _ (Blk.kept hb4 hk5 (by
              rintro (e | e)
              · exact hd4.d_ne_m e
              · exact hf4.ne_d hb4 d e rfl)) hm5 (fun k => mget_put n k _ l) (fun n' f' hn' hf' => (hd4.file n' f' hf').kept hk5 (by
              rintro k hk (e | e)
              · exact (hd4.file n' f' hf').ne_m hd4.map k hk e
              · exact HAP.out n' f' hn' hf' k hk e)) hf5 (by
              rintro n' f' hn' hf' k hk (e | e)
              · exact HAP.out n' f' hn' hf' k hk (.inl e)
              · rcases hn5 k e with e | e
                · exact HAP.out n' f' hn' hf' k hk (.inr e)
                · have := (hd4.file n' f' hf').lt k hk; omega) h80 hof5
            refine ⟨_, ⟨m, _, _, hd5, fun k => Iff.rfl⟩, ?_, ?_⟩
            · refine ((HK3.out.any (S := F)).trans' (hk4.mono fun k _ e => (HF.out k).2 (.inl e))).trans hk5 ?_
              rintro k hk (e | e)
              · exact (HF.out k).2 (.inr (.inl e))
              · rcases HFT.out k e with h1 | h1
                · exact (HF.out k).2 h1
                · omega
            · intro k hk
              rcases hd4.assign_foot n _ _ _ k hk with h1 | e | e
              · exact .inl ((HF.out k).2 h1)
              · rcases HFT.out k (.inl e) with h1 | h1
                · exact .inl ((HF.out k).2 h1)
                · exact .inr h1
              · rcases hn5 k e with e | e
                · rcases HFT.out k (.inr e) with h1 | h1
                  · exact .inl ((HF.out k).2 h1)
                  · exact .inr h1
                · right; omega
          · rintro e w5 ⟨rfl, hr⟩
            have HRR := Lib.hid hr
            have HZ3 := Lib.hid (congrArg Prod.fst HZ2.out)
            clear hr
            go_wp2_with fail
            go_ret
            refine ⟨?_, HRR.out⟩
            rw [HZ3.out]
            rfl
    | some f =>
      rw [hfile] at hlook1 hlook2
      simp only [Option.map_some, Option.getD_some, Option.isSome_some] at hlook1 hlook2
      go_wp2_with fail
      refine Reg.wp_region_plan [⟨0, false, []⟩, ⟨1, false, []⟩, ⟨2, false, []⟩, ⟨3, false, []⟩, ⟨4, false, []⟩, ⟨5, false, []⟩, ⟨6, false, []⟩, ⟨7, false, []⟩, ⟨8, false, []⟩, ⟨9, true, [0, 1, 2, 3, 4, 5, 7, 8]⟩, ⟨10, true, [8]⟩, ⟨11, false, []⟩] rfl (by kernel_rfl) ?_
      repeat (first | (refine Reg.look rfl rfl rfl (by go_simp; rfl) rfl ?_; go_simp) | (refine Reg.skip rfl rfl rfl ?_; go_simp))
      refine Reg.act rfl ?_
      go_wp2_with fail
      (refine ⟨?anew, ?_⟩; case anew => ((repeat (refine Reg.anew_cons rfl rfl (fun _ => by go_simp) ?_)); exact Reg.anew_nil))
      clear e0 e1 e2 hlook1 hlook2
      refine Reg.act rfl ?_
      go_wp2_with fail
      (refine ⟨?anew, ?_⟩; case anew => ((repeat (refine Reg.anew_cons rfl rfl (fun _ => by go_simp) ?_)); exact Reg.anew_nil))
      repeat (first | (refine Reg.look rfl rfl rfl (by go_simp; rfl) rfl ?_; go_simp) | (refine Reg.skip rfl rfl rfl ?_; go_simp))
      (refine Reg.done ?_; simp only [Exit.then])
      go_wp2_with fail
      clear c0 c1 c2 d0
      obtain ⟨w3, hw3⟩ : ∃ w3, (w2.alloc (.cells #[.pointer (some ⟨(L n).1, 0, none⟩)] 92)).drew = w3 := ⟨_, rfl⟩
      have hk3 : Kp No w2 w3 := by rw [← hw3]; exact ((Kp.refl _ _).alloc _).drew
      have hall : ∃ FB V fl, Blk w3 w2.heap.size 92 [.pointer (some ⟨FB, 0, none⟩)] ∧ FileIn w3 FB V fl ∧ (fileD n x).getD ⟨[], 0, false⟩ = fl ∧ OkF fl ∧ (∀ n' f', n' ≠ n → mget n' x.files = some f' → ∀ k, FF (L n').1 (L n').2 k → ¬ FF FB V k) ∧ ∀ k, FF FB V k → DF d m L x k ∨ w.heap.size ≤ k :=
        ⟨(L n).1, (L n).2, f, by rw [← hw3]; exact Blk.new w2 [_] _, (HD2.out.file n f hfile).kept hk3 (fun _ _ x => x), by unfold fileD; rw [hfile]; rfl, (HD2.out.ok.at hfile).1, fun n' f' hn' hf' => HD2.out.apart n' n f' f hf' hfile hn', fun k hk => .inl (.inr (.inr ⟨n, f, hfile, hk⟩))⟩
      have HB3 := Lib.hid ((HB2.out.kept hk3 (fun x => x)))
      have HBd := Lib.hid ((HB0.out.kept hk3 (fun x => x)))
      have HBn := Lib.hid ((HB1.out.kept hk3 (fun x => x)))
      have HD3 := Lib.hid (HD2.out.kept hk3 (fun _ _ x => x))
      have HK3 := Lib.hid (HK2.out.trans' hk3)
      rw [hw3]
      obtain ⟨g, hg⟩ : ∃ g, w2.heap.size = g := ⟨_, rfl⟩
      rw [hg] at hall
      obtain ⟨FB, V, fl, hG, hFl, hfl, hof, hap, hft⟩ := hall
      rw [hg]
      clear hw3 hk3
      have hz := appendD_go hfl HZ.out
      have HZ := Lib.hid hz
      obtain ⟨A, c, rfl, _⟩ := hFl.2.shape
      have HG := Lib.hid hG
      have HFl := Lib.hid hFl
      have HAP := Lib.hid hap
      have HFT := Lib.hid hft
      have g0 : w3.cell? ⟨g, 0, none⟩ = some _ := hG.cell rfl
      have s0 : w3.cell? ⟨b0 + 1 + 1, 0, none⟩ = some _ := HB3.out.cell rfl
      have p0 : w3.cell? ⟨FB, 0, none⟩ = some _ := hFl.1.cell rfl
      have q0 : w3.cell? ⟨b0, 0, none⟩ = some _ := HBd.out.cell rfl
      have hlen := hof.2
      have hwr : IntKind.i64.wrap (1048576 - (fl.bytes.length : Int)) = 1048576 - (fl.bytes.length : Int) := wrap_i64 (by omega) (by omega)
      clear hG hFl hap hft hfl
      by_cases hbig : 1048576 < fl.bytes.length + s.size
      · have hb : 1048576 - (fl.bytes.length : Int) < (s.size : Int) := by omega
        rw [if_pos hbig] at hz
        subst hz
        refine Reg.wp_region_plan [⟨0, false, []⟩, ⟨1, false, []⟩, ⟨2, false, []⟩, ⟨3, false, []⟩, ⟨4, false, []⟩, ⟨5, false, []⟩, ⟨6, false, []⟩, ⟨7, false, []⟩, ⟨8, false, []⟩, ⟨9, false, []⟩] rfl (by kernel_rfl) ?_
        repeat (first | (refine Reg.look rfl rfl rfl (by go_simp; rfl) rfl ?_; go_simp) | (refine Reg.skip rfl rfl rfl ?_; go_simp))
        (refine Reg.done ?_; simp only [Exit.then])
        go_wp2_with fail
        go_ret
        exact ⟨rfl, F, ⟨m, l, L, HD3.out.drew, HF.out⟩, HK3.out.any.drew, fun k hk => .inl hk⟩
      · have hb : (s.size : Int) ≤ 1048576 - (fl.bytes.length : Int) := by omega
        rw [if_neg hbig] at hz
        unfold stepD at hz
        refine Reg.wp_region_plan [⟨0, false, []⟩, ⟨1, false, []⟩, ⟨2, false, []⟩, ⟨3, false, []⟩, ⟨4, false, []⟩, ⟨5, false, []⟩, ⟨6, false, []⟩, ⟨7, false, []⟩, ⟨8, false, []⟩, ⟨9, false, []⟩] rfl (by kernel_rfl) ?_
        repeat (first | (refine Reg.look rfl rfl rfl (by go_simp; rfl) rfl ?_; go_simp) | (refine Reg.skip rfl rfl rfl ?_; go_simp))
        (refine Reg.done ?_; simp only [Exit.then])
        by_cases hfu : x.fuse = 0
        · rw [if_pos hfu] at hz
          subst hz
          have HFU := Lib.hid hfu
          clear hfu
          go_wp2_with fail
          refine (d_step_out d m x _ w3.drew HD3.out.blk HFU.out).mono ?_
          rintro e w4 ⟨rfl, hb4, hk4⟩
          have hk4 : Kp (· = d) w3 w4 := ((Kp.refl _ w3).drew).trans' hk4
          have HD4 := Lib.hid (HD3.out.turned hk4 hb4 rfl (HD3.out.ok.off true))
          have HK4 := Lib.hid (HK3.out.any.trans' (hk4.mono (fun k _ e => (HF.out k).2 (.inl e))))
          clear hb4 hk4
          go_wp2_with fail
          go_ret
          exact ⟨rfl, F, ⟨m, l, L, HD4.out, fun k => HF.out k⟩, HK4.out, fun k hk => .inl hk⟩
        · rw [if_neg hfu] at hz
          have HZ2 := Lib.hid hz
          have HFU := Lib.hid hfu
          have HO := Lib.hid hof
          have HBI := Lib.hid hbig
          clear hz hfu
          go_wp2_with fail
          refine (d_step d m 70 _ x w3.drew HD3.out.blk HD3.out.ok HFU.out (enters_of Tryz.func70 (by kernel_rfl) rfl) (fun w' => ∃ F', DiskAt w' d Z.2 F' ∧ Upd F w w' F') ?_).mono ?_
          · intro w4 hb4 hk4 hs4
            have hk4 : Kp (· = d) w3 w4 := ((Kp.refl _ w3).drew).trans' hk4
            have hd4 := HD3.out.turned hk4 hb4 rfl HD3.out.ok.stepped
            have hnd : ∀ {g e vs}, Blk w3 g e vs → e ≠ 66 → Blk w4 g e vs := fun h he => h.kept hk4 (blk_ne_blk h HD3.out.blk he)
            have hf4 := HFl.out.kept hk4 (fun k hk e => HFl.out.ne_d HD3.out.blk k hk e)
            refine (d_append1 g (b0 + 1 + 1) b0 (b0 + 1) d m FB _ fl (stepped x) l n s w4 (hnd HG.out (by decide)) (hnd HB3.out (by decide)) (hnd HBd.out (by decide)) (hnd HBn.out (by decide)) hb4 hd4.map hf4 (by have := HBI.out; omega)).mono ?_
            rintro e w5 ⟨rfl, hm5, ⟨v5, hf5, hn5⟩, hk5⟩
            refine ⟨rfl, ?_⟩
            rw [HZ2.out]
            have h80 := (readyD_fine HR.out).2.2
            have hs3 := HK3.out.size
            have hs4 : w4.heap.size = w3.heap.size := hs4
            have hof5 : OkF { fl with bytes := fl.bytes ++ s.data.toList } := ⟨by show fl.sure ≤ (fl.bytes ++ s.data.toList).length; rw [List.length_append]; have := HO.out.1; omega, by show (fl.bytes ++ s.data.toList).length ≤ _; rw [List.length_append, data_length]; have := HBI.out; omega⟩
            have hd5 := hd4.assign n FB v5 _ (Blk.kept hb4 hk5 (by
              rintro (e | e)
              · exact hd4.d_ne_m e
              · exact hf4.ne_d hb4 d e rfl)) hm5 (fun k => mget_put n k _ l) (fun n' f' hn' hf' => (hd4.file n' f' hf').kept hk5 (by
              rintro k hk (e | e)
              · exact (hd4.file n' f' hf').ne_m hd4.map k hk e
              · exact HAP.out n' f' hn' hf' k hk e)) hf5 (by
              rintro n' f' hn' hf' k hk (e | e)
              · exact HAP.out n' f' hn' hf' k hk (.inl e)
              · rcases hn5 k e with e | e
                · exact HAP.out n' f' hn' hf' k hk (.inr e)
                · have := (hd4.file n' f' hf').lt k hk; omega) h80 hof5
            refine ⟨_, ⟨m, _, _, hd5, fun k => Iff.rfl⟩, ?_, ?_⟩
            · refine ((HK3.out.any (S := F)).trans' (hk4.mono fun k _ e => (HF.out k).2 (.inl e))).trans hk5 ?_
              rintro k hk (e | e)
              · exact (HF.out k).2 (.inr (.inl e))
              · rcases HFT.out k e with h1 | h1
                · exact (HF.out k).2 h1
                · omega
            · intro k hk
              rcases hd4.assign_foot n _ _ _ k hk with h1 | e | e
              · exact .inl ((HF.out k).2 h1)
              · rcases HFT.out k (.inl e) with h1 | h1
                · exact .inl ((HF.out k).2 h1)
                · exact .inr h1
              · rcases hn5 k e with e | e
                · rcases HFT.out k (.inr e) with h1 | h1
                  · exact .inl ((HF.out k).2 h1)
                  · exact .inr h1
                · right; omega
          · rintro e w5 ⟨rfl, hr⟩
            have HRR := Lib.hid hr
            have HZ3 := Lib.hid (congrArg Prod.fst HZ2.out)
            clear hr
            go_wp2_with fail
            go_ret
            refine ⟨?_, HRR.out⟩
            rw [HZ3.out]
            rfl
  · have hrt : (R != 0) = true := by simpa using hr0
    have hz := HZ.out
    rw [if_pos hr0] at hz
    subst hz
    go_wp2_with fail
    go_ret
    exact ⟨rfl, F, ⟨m, l, L, HD2.out, HF.out⟩, HK2.out.any, fun k hk => .inl hk⟩
end Go.Proofs.YtflodiljgphkdaaGreat
