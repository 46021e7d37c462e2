/-
  disk: Remove, Read, Fuse, Down, Steps, New.
-/
import Derived.Test.YtflodiljgphkdaaGreatDisk7
namespace Go.Proofs.YtflodiljgphkdaaGreat
open Go.RowKit Go.ChangeShapes Go.WideShapes Go.ChangeAt

set_option maxRecDepth 100000 in
set_option maxHeartbeats 1000000 in
theorem d_remove1 (fb gd gn d m : Nat) (y : DV) (l : List (ByteArray × Value)) (n : ByteArray) (w : World) (h2 : Blk w gd 26 [.pointer (some ⟨d, 0, none⟩)]) (h3 : Blk w gn 9 [.string n]) (hd : DBlk w d m y) (hm : MapOf w m Value.string l) :
    Calls Tryz.prog 64 #[.pointer (some ⟨fb, 0, none⟩), .pointer (some ⟨gd, 0, none⟩), .pointer (some ⟨gn, 0, none⟩)] w fun e w' => e = .returned (.tuple #[]) ∧ MapOf w' m Value.string (mdel n l) ∧ Kp (· = m) w w' := by
  have HM := Lib.hid hm
  have c2 : w.cell? ⟨gd, 0, none⟩ = some _ := h2.cell rfl
  have c3 : w.cell? ⟨gn, 0, none⟩ = some _ := h3.cell rfl
  have c4 : w.cell? ⟨d, 0, none⟩ = some _ := Blk.cell hd rfl
  clear h2 h3 hd hm
  go_enter Tryz.func64, Tryz.ntmps64
  go_wp2_with fail
  refine Reg.wp_region_plan [⟨0, false, []⟩, ⟨1, false, []⟩, ⟨2, false, []⟩, ⟨3, false, []⟩, ⟨4, false, []⟩, ⟨5, true, []⟩] rfl (by kernel_rfl) ?_
  repeat (first | (refine Reg.look rfl rfl rfl (by go_simp; rfl) rfl ?_; go_simp) | (refine Reg.skip rfl rfl rfl ?_; go_simp))
  refine Reg.act rfl ?_
  have hmd : MapOf w.drew m Value.string l := HM.out
  obtain ⟨w3, hrun, hm3, hk3⟩ := hmd.delete (P := Tryz.prog) key_dsk Tryz.underlying64 n 9 0
  have HM3 := Lib.hid hm3
  have HK3 := Lib.hid (((Kp.refl (· = m) w).drew).trans' hk3)
  clear hmd hm3 hk3 c2 c3 c4
  go_wp2_with fail
  try rw [hrun]
  try go_wp2_with fail
  refine ⟨Reg.anew_nil, ?_⟩
  (refine Reg.done ?_; simp only [Exit.then])
  go_wp2_with fail
  go_end0
  exact ⟨rfl, HM3.out, HK3.out⟩

set_option maxRecDepth 100000 in
theorem d_remove (d : Nat) (x : DV) (F : Nat → Prop) (n : ByteArray) (w : World) (h : DiskAt w d x F) :
    Calls Tryz.prog 31 #[.pointer (some ⟨d, 0, none⟩), .string n] w fun e w' => e = .returned (.int .i64 (removeD n x).1) ∧ ∃ F', DiskAt w' d (removeD n x).2 F' ∧ Upd F w w' F' := by
  obtain ⟨m, l, L, h, hF⟩ := h
  obtain ⟨w1, hw1⟩ : ∃ w1, (w.alloc (.cells #[.pointer (some ⟨d, 0, none⟩)] 26)).alloc (.cells #[.string n] 9) = w1 := ⟨_, rfl⟩
  have hB0 : Blk w1 w.heap.size 26 [.pointer (some ⟨d, 0, none⟩)] := by
    rw [← hw1]; exact (Blk.new w [_] _).kept (S := No) ((Kp.refl _ _).alloc _) (fun x => x)
  have hB1 : Blk w1 (w.heap.size + 1) 9 [.string n] := by
    rw [← hw1]
    have h := Blk.new (w.alloc (.cells #[.pointer (some ⟨d, 0, none⟩)] 26)) [.string n] 9
    simpa using h
  have hk1 : Kp No w w1 := by rw [← hw1]; exact ((Kp.refl _ _).alloc _).alloc _
  have h1 := h.kept hk1 (fun _ _ x => x)
  have c0 : w1.cell? ⟨w.heap.size, 0, none⟩ = some _ := hB0.cell rfl
  have c1 : w1.cell? ⟨w.heap.size + 1, 0, none⟩ = some _ := hB1.cell rfl
  have hk := d_known d m 64 #[.pointer (some ⟨w.heap.size, 0, none⟩), .pointer (some ⟨w.heap.size + 1, 0, none⟩)] l L x F n w1 h1 hF (enters_of Tryz.func64 (by kernel_rfl) rfl) (fun _ y => { y with files := mdel n y.files }) (by
    intro f w2 hf hd hk2
    refine (d_remove1 (L n).1 w.heap.size (w.heap.size + 1) d m _ l n w2 (hB0.kept hk2 (blk_ne_blk hB0 h1.blk (by decide))) (hB1.kept hk2 (blk_ne_blk hB1 h1.blk (by decide))) hd.blk hd.map).mono ?_
    rintro e w' ⟨rfl, hm', hk'⟩
    have hd' := hd.delete n hm' hk'
    exact ⟨rfl, _, ⟨m, _, L, hd', fun k => Iff.rfl⟩, hk'.mono (fun k _ e => (hF k).2 (.inr (.inl e))), fun k hk => .inl ((hF k).2 (hd.delete_foot n k hk))⟩)
  obtain ⟨Z, hZ⟩ : ∃ Z, removeD n x = Z := ⟨_, rfl⟩
  rw [hZ]
  unfold removeD at hZ
  rw [hZ] at hk
  have HK1 := Lib.hid hk1
  have HK := Lib.hid hk
  clear hZ h hF hB0 hB1 hk1 h1 hk
  go_enter Tryz.func31, Tryz.ntmps31
  go_wp2_with fail
  clear hw1
  refine HK.out.mono ?_
  rintro e w2 ⟨rfl, F', hr, hu, hn⟩
  have HR := Lib.hid hr
  have HU := Lib.hid ((HK1.out.any (S := F)).trans' hu)
  have HN := Lib.hid hn
  have hs := HK1.out.size
  clear hr hu hn HK
  go_wp2_with fail
  go_ret
  exact ⟨rfl, F', HR.out, HU.out, fun k hk => (HN.out k hk).imp id (fun h => by omega)⟩

set_option maxRecDepth 100000 in
theorem d_read (d : Nat) (x : DV) (F : Nat → Prop) (n : ByteArray) (w : World) (h : DiskAt w d x F) :
    Calls Tryz.prog 62 #[.pointer (some ⟨d, 0, none⟩), .string n] w fun e w' => e = .returned (.tuple #[.string (textOr (readD n x)), .bool (readD n x).isSome]) ∧ w' = w := by
  obtain ⟨m, l, L, h, hF⟩ := h
  have H := Lib.hid h
  clear h hF
  have d2 : w.cell? ⟨d, 2, none⟩ = some (.bool x.off) := Blk.cell H.out.blk rfl
  have d0 : w.cell? ⟨d, 0, none⟩ = some _ := Blk.cell H.out.blk rfl
  have hlook := H.out.map.look_ok (P := Tryz.prog) key_dsk Tryz.underlying64 n (zero_filep w)
  rw [H.out.ents n] at hlook
  unfold readD fileD
  cases hoff : x.off with
  | true =>
    rw [hoff] at d2
    clear hlook d0 hoff
    simp only [if_true]
    go_enter Tryz.func62, Tryz.ntmps62
    go_wp2_with fail
    go_ret2
    exact ⟨rfl, rfl⟩
  | false =>
    rw [hoff] at d2
    simp only [Bool.false_eq_true, if_false]
    clear hoff
    cases hf : mget n x.files with
    | none =>
      rw [hf] at hlook
      simp only [Option.map_none, Option.getD_none, Option.isSome_none] at hlook
      clear hf
      simp only [Option.map_none]
      go_enter Tryz.func62, Tryz.ntmps62
      go_wp2_with fail
      go_ret2
      exact ⟨rfl, rfl⟩
    | some f =>
      rw [hf] at hlook
      simp only [Option.map_some, Option.getD_some, Option.isSome_some] at hlook
      have hfi := H.out.file n f hf
      obtain ⟨A, c, hv, _⟩ := hfi.2.shape
      have p0 : w.cell? ⟨(L n).1, 0, none⟩ = some _ := hfi.1.cell rfl
      have htx : (convert 88 9 (L n).2).run Tryz.prog w = .ok (.string (bs f.bytes)) w := by
        have h2 := hfi.2
        rw [hv] at h2 ⊢
        exact h2.text (P := Tryz.prog) _ _ bytely
      clear hv hfi hf
      simp only [Option.map_some]
      obtain ⟨T, hT⟩ : ∃ T, bs f.bytes = T := ⟨_, rfl⟩
      rw [hT] at htx ⊢
      go_enter Tryz.func62, Tryz.ntmps62
      go_wp2_with fail
      go_ret2
      exact ⟨rfl, rfl⟩

set_option maxRecDepth 100000 in
theorem d_down (d : Nat) (x : DV) (F : Nat → Prop) (w : World) (h : DiskAt w d x F) :
    Calls Tryz.prog 26 #[.pointer (some ⟨d, 0, none⟩)] w fun e w' => e = .returned (.bool x.off) ∧ w' = w := by
  obtain ⟨m, l, L, h, hF⟩ := h
  have d2 : w.cell? ⟨d, 2, none⟩ = some (.bool x.off) := Blk.cell h.blk rfl
  clear h hF
  go_enter Tryz.func26, Tryz.ntmps26
  go_wp2_with fail
  go_ret
  exact ⟨rfl, rfl⟩
set_option maxRecDepth 100000 in
theorem d_new (w : World) : Calls Tryz.prog 6 #[] w fun e w' => ∃ d F, e = .returned (.pointer (some ⟨d, 0, none⟩)) ∧ DiskAt w' d newD F ∧ Kp No w w' ∧ ∀ k, F k → w.heap.size ≤ k := by
  have hmm := @run_makeMap Tryz.prog
  go_enter Tryz.func6, Tryz.ntmps6
  go_wp2_with fail
  go_ret
  have hm : MapOf ((w.alloc (.map #[] 0)).alloc (.cells #[.map (some w.heap.size), .int .i64 (-1), .bool false, .int .i64 0] 66)) w.heap.size Value.string [] := (MapOf.made w).kept (S := No) ((Kp.refl _ _).alloc _) (fun x => x)
  have hb := Blk.new (w.alloc (.map #[] 0)) [.map (some w.heap.size), .int .i64 (-1), .bool false, .int .i64 0] 66
  have e1 : (w.alloc (.map #[] 0)).heap.size = w.heap.size + 1 := by simp
  rw [e1] at hb
  refine ⟨w.heap.size + 1, _, rfl, ⟨w.heap.size, [], fun _ => (0, .slice none 0 0), ⟨hb, hm, fun n => rfl, (by intro n f hf; cases hf), (by intro n n' f f' hf; cases hf), newD_ok⟩, fun k => Iff.rfl⟩, ((Kp.refl _ _).alloc _).alloc _, ?_⟩
  rintro k (rfl | rfl | ⟨n, f, hf, _⟩)
  · omega
  · exact Nat.le_refl _
  · cases hf
end Go.Proofs.YtflodiljgphkdaaGreat
