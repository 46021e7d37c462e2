/-
  disk: a step with a file that is there: Sync, Remove.
-/
import Derived.Test.YtflodiljgphkdaaGreatDisk6a
namespace Go.Proofs.YtflodiljgphkdaaGreat
open Go.RowKit Go.ChangeShapes Go.WideShapes Go.ChangeAt

set_option maxRecDepth 100000 in
set_option maxHeartbeats 1000000 in
theorem d_known1 (gw gf k fb : Nat) (cap : Array Value) (w : World) (h0 : Blk w gw 116 [.func (.func k) #[] cap]) (h1 : Blk w gf 92 [.pointer (some ⟨fb, 0, none⟩)]) (eg : ∀ args w, (callFunc k args).run Tryz.prog w = .ok (.enter k args) w) (R : World → Prop)
    (hk : Calls Tryz.prog k (#[.pointer (some ⟨fb, 0, none⟩)] ++ cap) w fun e w' => e = .returned (.tuple #[]) ∧ R w') :
    Calls Tryz.prog 88 #[.pointer (some ⟨gw, 0, none⟩), .pointer (some ⟨gf, 0, none⟩)] w fun e w' => e = .returned (.tuple #[]) ∧ R w' := by
  have c0 : w.cell? ⟨gw, 0, none⟩ = some _ := h0.cell rfl
  have c1 : w.cell? ⟨gf, 0, none⟩ = some _ := h1.cell rfl
  have HK := Lib.hid hk
  clear h0 h1 hk
  go_enter Tryz.func88, Tryz.ntmps88
  go_wp2_with fail
  refine HK.out.mono ?_
  rintro e w2 ⟨rfl, hr⟩
  have HR := Lib.hid hr
  clear hr HK c0 c1
  go_wp2_with fail
  go_end0
  exact ⟨rfl, HR.out⟩

set_option maxRecDepth 100000 in
set_option maxHeartbeats 1000000 in
theorem d_known (d m k : Nat) (cap : Array Value) (l : List (ByteArray × Value)) (L : Loc) (x : DV) (F : Nat → Prop) (n : ByteArray) (w : World) (h : DiskIn w d m l L x) (hF : ∀ k, F k ↔ DF d m L x k) (eg : ∀ args w, (callFunc k args).run Tryz.prog w = .ok (.enter k args) w) (K : FV → DV → DV)
    (hk : ∀ f w1, mget n x.files = some f → DiskIn w1 d m l L (stepped x) → Kp (· = d) w w1 → Calls Tryz.prog k (#[.pointer (some ⟨(L n).1, 0, none⟩)] ++ cap) w1 fun e w' => e = .returned (.tuple #[]) ∧ ∃ F', DiskAt w' d (K f (stepped x)) F' ∧ Upd F w1 w' F') :
    Calls Tryz.prog 63 #[.pointer (some ⟨d, 0, none⟩), .string n, .func (.func k) #[] cap] w fun e w' => e = .returned (.int .i64 (knownD n x K).1) ∧ ∃ F', DiskAt w' d (knownD n x K).2 F' ∧ Upd F w w' F' := by
  have H := Lib.hid h
  have HF := Lib.hid hF
  have HKK := Lib.hid hk
  have hready := fun w' h' => d_ready d m x n w' h'
  obtain ⟨R, hR⟩ : ∃ R, readyD n x = R := ⟨_, rfl⟩
  rw [hR] at hready
  obtain ⟨Z, hZ⟩ : ∃ Z, knownD n x K = Z := ⟨_, rfl⟩
  rw [hZ]
  unfold knownD fileD at hZ
  rw [hR] at hZ
  have HZ := Lib.hid hZ
  clear hZ h hF hk
  go_enter Tryz.func63, Tryz.ntmps63
  go_wp2_with fail
  obtain ⟨w1, hw1⟩ : ∃ w1, w.alloc (.cells #[.func (.func k) #[] cap] 116) = w1 := ⟨_, rfl⟩
  have HB0 : Hid (Blk w1 w.heap.size 116 [.func (.func k) #[] cap]) := Lib.hid (by rw [← hw1]; exact Blk.new w [_] _)
  have HK1 : Hid (Kp No w w1) := Lib.hid (by rw [← hw1]; exact (Kp.refl _ _).alloc _)
  have HD1 := Lib.hid (H.out.kept HK1.out (fun _ _ x => x))
  rw [hw1]
  clear hw1
  refine (hready w1 HD1.out.blk).mono ?_
  rintro e w2 ⟨rfl, hk2⟩
  have HB0 := Lib.hid (HB0.out.kept hk2 (fun x => x))
  have HD2 := Lib.hid (HD1.out.kept hk2 (fun _ _ x => x))
  have HK2 := Lib.hid (HK1.out.trans' hk2)
  clear hk2 hready
  by_cases hr0 : R = 0
  · subst hr0
    have HR := Lib.hid hR
    clear hR
    obtain ⟨b0, hb0⟩ : ∃ b0, w.heap.size = b0 := ⟨_, rfl⟩
    rw [hb0] at HB0
    have d0 : w2.cell? ⟨d, 0, none⟩ = some _ := Blk.cell HD2.out.blk rfl
    have hlook := HD2.out.map.look_ok (P := Tryz.prog) key_dsk Tryz.underlying64 n (zero_filep w2)
    rw [HD2.out.ents n] at hlook
    have hz := HZ.out
    rw [if_neg (by simp)] at hz
    cases hfile : mget n x.files with
    | none =>
      rw [hfile] at hlook hz
      simp only [Option.map_none, Option.getD_none, Option.isSome_none] at hlook
      simp only at hz
      subst hz
      go_wp2_with fail
      go_ret
      exact ⟨rfl, F, ⟨m, l, L, HD2.out.kept (S := No) ((Kp.refl _ _).alloc _) (fun _ _ x => x), HF.out⟩, HK2.out.any.alloc _, fun k hk => .inl hk⟩
    | some f =>
      rw [hfile] at hlook hz
      simp only [Option.map_some, Option.getD_some, Option.isSome_some] at hlook
      simp only at hz
      unfold stepD at hz
      have HFI := Lib.hid hfile
      clear hfile
      by_cases hfu : x.fuse = 0
      · rw [if_pos hfu] at hz
        subst hz
        have HFU := Lib.hid hfu
        clear hfu
        go_wp2_with fail
        have hk3 : Kp No w2 (w2.alloc (.cells #[.pointer (some ⟨(L n).1, 0, none⟩)] 92)) := (Kp.refl _ _).alloc _
        have HD3 := Lib.hid (HD2.out.kept hk3 (fun _ _ x => x))
        refine (d_step_out d m x _ _ HD3.out.blk HFU.out).mono ?_
        rintro e w4 ⟨rfl, hb4, hk4⟩
        have HD4 := Lib.hid (HD3.out.turned hk4 hb4 rfl (HD3.out.ok.off true))
        have HK4 := Lib.hid (((HK2.out.trans' hk3).any (S := F)).trans' (hk4.mono (fun k _ e => (HF.out k).2 (.inl e))))
        clear hb4 hk4 hk3
        go_wp2_with fail
        go_ret
        exact ⟨rfl, F, ⟨m, l, L, HD4.out, fun k => HF.out k⟩, HK4.out, fun k hk => .inl hk⟩
      · rw [if_neg hfu] at hz
        have HZ2 := Lib.hid hz
        have HFU := Lib.hid hfu
        clear hz hfu
        go_wp2_with fail
        have hk3 : Kp No w2 (w2.alloc (.cells #[.pointer (some ⟨(L n).1, 0, none⟩)] 92)) := (Kp.refl _ _).alloc _
        have HD3 := Lib.hid (HD2.out.kept hk3 (fun _ _ x => x))
        have HG : Hid (Blk (w2.alloc (.cells #[.pointer (some ⟨(L n).1, 0, none⟩)] 92)) w2.heap.size 92 [.pointer (some ⟨(L n).1, 0, none⟩)]) := Lib.hid (Blk.new w2 [_] _)
        have HB3 := Lib.hid (HB0.out.kept hk3 (fun x => x))
        have HK3 := Lib.hid (HK2.out.trans' hk3)
        obtain ⟨w3, hw3⟩ : ∃ w3, w2.alloc (.cells #[.pointer (some ⟨(L n).1, 0, none⟩)] 92) = w3 := ⟨_, rfl⟩
        rw [hw3] at HD3 HG HB3 HK3
        rw [hw3]
        clear hk3 hw3 hlook d0
        refine (d_step d m 88 _ x w3 HD3.out.blk HD3.out.ok HFU.out (enters_of Tryz.func88 (by kernel_rfl) rfl) (fun w' => ∃ F', DiskAt w' d Z.2 F' ∧ Upd F w w' F') ?_).mono ?_
        · intro w4 hb4 hk4 hs4
          have hd4 := HD3.out.turned hk4 hb4 rfl HD3.out.ok.stepped
          have hnd : ∀ {g e vs}, Blk w3 g e vs → e ≠ 66 → Blk w4 g e vs := fun h he => h.kept hk4 (blk_ne_blk h HD3.out.blk he)
          have hk4' : Kp (· = d) w w4 := (HK3.out.any (S := (· = d))).trans' hk4
          refine d_known1 b0 w2.heap.size k (L n).1 cap w4 (hnd HB3.out (by decide)) (hnd HG.out (by decide)) eg _ ?_
          refine (HKK.out f w4 HFI.out hd4 hk4').mono ?_
          rintro e w5 ⟨rfl, F', hd5, hu5, hn5⟩
          refine ⟨rfl, F', ?_, (hk4'.mono fun k _ e => (HF.out k).2 (.inl e)).trans' hu5, fun k hk => ?_⟩
          · rw [← HZ2.out]; exact hd5
          · rcases hn5 k hk with h1 | h1
            · exact .inl h1
            · have := hk4'.size; right; omega
        · rintro e w5 ⟨rfl, hr⟩
          have HRR := Lib.hid hr
          have HZ3 := Lib.hid (congrArg Prod.fst HZ2.out).symm
          clear hr
          go_wp2_with fail
          go_ret
          refine ⟨?_, HRR.out⟩
          rw [HZ3.out]
          rfl
  · have hrt : (R != 0) = true := by simpa using hr0
    have hz := HZ.out
    rw [if_pos hr0] at hz
    subst hz
    go_wp2_with fail
    go_ret
    exact ⟨rfl, F, ⟨m, l, L, HD2.out, HF.out⟩, HK2.out.any, fun k hk => .inl hk⟩

set_option maxRecDepth 100000 in
theorem d_sync1 (b : Nat) (v : Value) (f : FV) (w : World) (h : FileIn w b v f) :
    Calls Tryz.prog 73 #[.pointer (some ⟨b, 0, none⟩)] w fun e w' => e = .returned (.tuple #[]) ∧ FileUp w w' b v (syncF f) := by
  have hs := d_settle b v f w h
  have HN := Lib.hid h.ne
  clear h
  go_enter Tryz.func73, Tryz.ntmps73
  go_wp2_with fail
  refine hs.mono ?_
  rintro e w2 ⟨rfl, hf2, hk2⟩
  have c2 : w2.cell? ⟨b, 2, none⟩ = some _ := hf2.1.cell rfl
  have f2 := hf2.1.fr 2
  have HF2 := Lib.hid hf2
  have HK2 := Lib.hid hk2
  clear hs hf2 hk2
  go_wp2_with fail
  go_end0
  have hk3 : Kp (· = b) w2 (w2.setCell ⟨b, 2, none⟩ (.bool true)) := (Kp.refl (· = b) w2).setCell (p := ⟨b, 2, none⟩) (fun _ => rfl) _
  exact ⟨rfl, FileUp.of ⟨HF2.out.1.set 2 _, HF2.out.2.kept hk3 (fun k hk e => HN.out (by rw [hk, e]))⟩ ((HK2.out.trans' hk3).mono fun k _ e => .inl e)⟩

theorem d_sync (d : Nat) (x : DV) (F : Nat → Prop) (n : ByteArray) (w : World) (h : DiskAt w d x F) :
    Calls Tryz.prog 41 #[.pointer (some ⟨d, 0, none⟩), .string n] w fun e w' => e = .returned (.int .i64 (syncD n x).1) ∧ ∃ F', DiskAt w' d (syncD n x).2 F' ∧ Upd F w w' F' := by
  obtain ⟨m, l, L, h, hF⟩ := h
  have hk := d_known d m 73 #[] l L x F n w h hF (enters_of Tryz.func73 (by kernel_rfl) rfl) (fun f y => { y with files := ins n (syncF f) y.files }) (by
    intro f w1 hf hd hk
    refine (d_sync1 (L n).1 (L n).2 f w1 (hd.file n f hf)).mono ?_
    rintro e w' ⟨rfl, hu⟩
    obtain ⟨L', h1, h2, h3⟩ := hd.turn (f := f) hf hu (syncF_ok (hd.ok.at (n := n) (f := f) hf).1)
    exact ⟨rfl, _, ⟨m, l, L', h1, fun k => Iff.rfl⟩, h2.mono (fun k _ hk => (hF k).2 hk), fun k hk => (h3 k hk).imp (fun h => (hF k).2 h) id⟩)
  obtain ⟨Z, hZ⟩ : ∃ Z, syncD n x = Z := ⟨_, rfl⟩
  rw [hZ]
  unfold syncD at hZ
  rw [hZ] at hk
  clear hZ h hF
  go_enter Tryz.func41, Tryz.ntmps41
  go_wp2_with fail
  refine hk.mono ?_
  rintro e w2 ⟨rfl, hr⟩
  have HR := Lib.hid hr
  clear hr hk
  go_wp2_with fail
  go_ret
  exact ⟨rfl, HR.out⟩
end Go.Proofs.YtflodiljgphkdaaGreat
