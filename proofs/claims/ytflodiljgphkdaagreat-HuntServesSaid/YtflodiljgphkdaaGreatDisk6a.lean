/-
  disk.Append's step.
-/
import Derived.Test.YtflodiljgphkdaaGreatDisk5
namespace Go.Proofs.YtflodiljgphkdaaGreat
open Go.RowKit Go.ChangeShapes Go.WideShapes Go.ChangeAt

theorem key_dsk : KeyOk Tryz.prog 9 (κ := ByteArray) Value.string := KeyOk.string Tryz.underlying9
theorem zero_filep (w : World) : (zeroValue 92).run Tryz.prog w = .ok (.pointer none) w := by
  go_simp

set_option maxRecDepth 100000 in
set_option maxHeartbeats 1000000 in
theorem d_append1 (gf gs gd gn d m fb : Nat) (v : Value) (f : FV) (y : DV) (l : List (ByteArray × Value)) (n s : ByteArray) (w : World) (h0 : Blk w gf 92 [.pointer (some ⟨fb, 0, none⟩)]) (h1 : Blk w gs 9 [.string s])
    (h2 : Blk w gd 26 [.pointer (some ⟨d, 0, none⟩)]) (h3 : Blk w gn 9 [.string n]) (hd : DBlk w d m y) (hm : MapOf w m Value.string l) (hf : FileIn w fb v f) (hs : f.bytes.length + s.size ≤ 1048576) :
    Calls Tryz.prog 70 #[.pointer (some ⟨gf, 0, none⟩), .pointer (some ⟨gs, 0, none⟩), .pointer (some ⟨gd, 0, none⟩), .pointer (some ⟨gn, 0, none⟩)] w fun e w' => e = .returned (.tuple #[]) ∧
      MapOf w' m Value.string (mput n (.pointer (some ⟨fb, 0, none⟩)) l) ∧ (∃ v', FileIn w' fb v' { f with bytes := f.bytes ++ s.data.toList } ∧ ∀ k, vblk v' = some k → vblk v = some k ∨ w.heap.size ≤ k) ∧ Kp (fun k => k = m ∨ FF fb v k) w w' := by
  have H0 := Lib.hid h0
  have H1 := Lib.hid h1
  have H2 := Lib.hid h2
  have H3 := Lib.hid h3
  have HD := Lib.hid hd
  have HM := Lib.hid hm
  have HF := Lib.hid hf
  have c0 : w.cell? ⟨gf, 0, none⟩ = some _ := h0.cell rfl
  have c1 : w.cell? ⟨gs, 0, none⟩ = some _ := h1.cell rfl
  have hne : Hid (∀ (g : Nat) e vs, e ≠ 97 → e ≠ 5 → Blk w g e vs → ¬ FF fb v g) := Lib.hid (by
    rintro g e vs he he2 hb (rfl | hk)
    · exact blk_ne_blk hb hf.1 he rfl
    · exact hf.2.ne_blk hb he2.symm hk)
  have hput := d_put fb v f s w.drew hf hs
  clear h0 h1 h2 h3 hd hm hf
  go_enter Tryz.func70, Tryz.ntmps70
  go_wp2_with fail
  refine Reg.wp_region_plan [⟨0, false, []⟩, ⟨1, false, []⟩, ⟨2, false, []⟩, ⟨3, false, []⟩, ⟨4, true, []⟩] rfl (by kernel_rfl) ?_
  repeat (first | (refine Reg.look rfl rfl rfl (by go_simp; rfl) rfl ?_; go_simp) | (refine Reg.skip rfl rfl rfl ?_; go_simp))
  refine Reg.act rfl ?_
  go_wp2_with fail
  refine hput.mono ?_
  rintro e w2 ⟨rfl, v2, hf2, hk2, hn2⟩
  have hk2 : Kp (FF fb v) w w2 := ((Kp.refl _ w).drew).trans' hk2
  have HK2 := Lib.hid hk2
  have HF2 := Lib.hid hf2
  have HN2 := Lib.hid hn2
  have HM2 := Lib.hid (HM.out.kept hk2 fun hm => (HF.out.ne_m HM.out m hm) rfl)
  have d0 : w2.cell? ⟨gf, 0, none⟩ = some _ := (H0.out.kept hk2 (hne.out _ _ _ (by decide) (by decide) H0.out)).cell rfl
  have d2 : w2.cell? ⟨gd, 0, none⟩ = some _ := (H2.out.kept hk2 (hne.out _ _ _ (by decide) (by decide) H2.out)).cell rfl
  have d3 : w2.cell? ⟨gn, 0, none⟩ = some _ := (H3.out.kept hk2 (hne.out _ _ _ (by decide) (by decide) H3.out)).cell rfl
  have d4 : w2.cell? ⟨d, 0, none⟩ = some _ := Blk.cell (Blk.kept HD.out hk2 (fun hk => (HF.out.ne_d HD.out d hk) rfl)) rfl
  clear hk2 hf2 hn2 c0 c1 hput
  go_wp2_with fail
  refine ⟨Reg.anew_nil, ?_⟩
  (refine Reg.done ?_; simp only [Exit.then])
  go_wp2_with fail
  refine Reg.wp_region_plan [⟨0, false, []⟩, ⟨1, false, []⟩, ⟨2, false, []⟩, ⟨3, false, []⟩, ⟨4, false, []⟩, ⟨5, false, []⟩, ⟨6, true, []⟩] rfl (by kernel_rfl) ?_
  repeat (first | (refine Reg.look rfl rfl rfl (by go_simp; rfl) rfl ?_; go_simp) | (refine Reg.skip rfl rfl rfl ?_; go_simp))
  refine Reg.act rfl ?_
  go_wp2_with fail
  have hmd : MapOf w2.drew m Value.string l := HM2.out
  obtain ⟨w3, hrun, hm3, hk3⟩ := hmd.update (P := Tryz.prog) key_dsk Tryz.underlying64 n (.pointer (some ⟨fb, 0, none⟩))
  have HM3 := Lib.hid hm3
  have HF3 := Lib.hid (FileIn.kept (w := w2.drew) HF2.out hk3 (fun k hk e => (HF2.out.ne_m HM2.out k hk) e))
  have HK3 : Hid (Kp (fun k => k = m ∨ FF fb v k) w w3) := Lib.hid (((HK2.out.mono fun k _ hk => .inr hk).drew).trans hk3 (fun _ _ e => .inl e))
  rw [hrun]
  clear hmd hrun hm3 hk3
  go_wp2_with fail
  refine ⟨Reg.anew_nil, ?_⟩
  (refine Reg.done ?_; simp only [Exit.then])
  go_wp2_with fail
  go_end0
  exact ⟨rfl, HM3.out, ⟨v2, HF3.out, HN2.out⟩, HK3.out⟩
end Go.Proofs.YtflodiljgphkdaaGreat
