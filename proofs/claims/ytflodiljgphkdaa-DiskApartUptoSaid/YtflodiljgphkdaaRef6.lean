/-
  The document's drive: Copy.
-/
import Derived.Test.YtflodiljgphkdaaRef5
namespace Go.Proofs.Ytflodiljgphkdaa
open Go.RowKit Go.ChangeShapes Go.WideShapes Go.ChangeAt

set_option maxRecDepth 100000 in
theorem r_copy (r : Nat) (x : DV) (F : Nat → Prop) (w : World) (h : RAt w r x F) (hx : x.files.length ≤ 1000000) :
    Calls Try.prog 31 #[.pointer (some ⟨r, 0, none⟩)] w fun e w' => ∃ r' F', e = .returned (.pointer (some ⟨r', 0, none⟩)) ∧ RAt w' r' x F' ∧ Kp No w w' ∧ ∀ k, F' k → w.heap.size ≤ k := by
  obtain ⟨v, h, _⟩ := h
  obtain ⟨A, c, rfl, hc1, hc2, _⟩ := id h.row
  have H := Lib.hid h
  have c0 : w.cell? ⟨r, 0, none⟩ = some (.slice A x.files.length c) := Blk.cell h.blk rfl
  have c1 : w.cell? ⟨r, 1, none⟩ = some (.int .i64 x.fuse) := Blk.cell h.blk rfl
  have c2 : w.cell? ⟨r, 2, none⟩ = some (.bool x.off) := Blk.cell h.blk rfl
  have c3 : w.cell? ⟨r, 3, none⟩ = some (.int .i64 x.steps) := Blk.cell h.blk rfl
  have hrlt : r < w.heap.size := Blk.lt h.blk
  have hb1 := Blk.new w [.slice A x.files.length c, .int .i64 x.fuse, .bool x.off, .int .i64 x.steps] 102
  obtain ⟨w1, hw1⟩ : ∃ w1, w.alloc (.cells #[.slice A x.files.length c, .int .i64 x.fuse, .bool x.off, .int .i64 x.steps] 102) = w1 := ⟨_, rfl⟩
  have hk1 : Kp No w w1 := by rw [← hw1]; exact (Kp.refl _ _).alloc _
  have hb1' : Blk w1 w.heap.size 102 [.slice A x.files.length c, .int .i64 x.fuse, .bool x.off, .int .i64 x.steps] := by rw [← hw1]; exact hb1
  have HB1 := Lib.hid hb1'
  have HK1 := Lib.hid hk1
  have HSRC := Lib.hid (Rp.rf.slice.more (H.out.keptNo hk1).row.read (fun k hk => (H.out.keptNo hk1).row.lt hk))
  have c01 : w1.cell? ⟨r, 0, none⟩ = some (.slice A x.files.length c) := Blk.cell (H.out.keptNo hk1).blk rfl
  have hrlt1 : r < w1.heap.size := Blk.lt (H.out.keptNo hk1).blk
  clear h hb1 hb1' hk1 hc1 hc2
  go_enter Try.func31, Try.ntmps31
  go_wp2_with (at_builtin; refine wpList_copy_lit (E := Rp.rf) rfl w1 (.tmp 7) (.tmp 11) 100 rfl 106 56 el_rf rfl A c (fun k => k < w1.heap.size) x.files rfl HSRC.out Rp.rf_one (by omega) ?_; intro A2 c2 w2 hown2 hk2; have HO2 := Lib.hid hown2; have HK2 := Lib.hid hk2; have c02 : w2.cell? ⟨w.heap.size, 0, none⟩ = some _ := (HB1.out.kept hk2 (fun x => x)).cell rfl; have f02 := (HB1.out.kept hk2 (fun x => x)).fr 0; clear hown2 hk2)
  go_ret
  obtain ⟨hrs, hbs⟩ := RS.of_own HO2.out
  have hlt := HB1.out.lt
  have hsh := Shp.of_own HO2.out
  have hb2 := HB1.out.kept HK2.out (fun x => x)
  have hbs' : ∀ k, rblk (.slice A2 x.files.length c2) = some k → w1.heap.size ≤ k := hbs
  refine ⟨w.heap.size, fun k => k = w.heap.size ∨ rblk (.slice A2 x.files.length c2) = some k, rfl, ⟨_, ⟨Blk.set hb2 0 _, ?_, H.out.ok, hsh⟩, fun k => Iff.rfl⟩, (HK1.out.trans' HK2.out).setCell (p := ⟨w.heap.size, 0, none⟩) (fun hl => absurd hl (Nat.lt_irrefl _)) _, ?_⟩
  · exact RS.kept (S := (· = w.heap.size)) hrs ((Kp.refl (· = w.heap.size) w2).setCell (p := ⟨w.heap.size, 0, none⟩) (fun _ => rfl) _) (fun k hk e => by have := hbs' k hk; omega)
  · rintro k (rfl | hk)
    · exact Nat.le_refl _
    · have := hbs' k hk
      omega
end Go.Proofs.Ytflodiljgphkdaa
