/-
  disk: a file in memory; what is done with one: put, settle, waits, cut.
-/
import Derived.Test.YtflodiljgphkdaaGreatBuf
import Derived.Test.YtflodiljgphkdaaGreatM2
import Derived.Test.YtflodiljgphkdaaGreatM1
namespace Go.Proofs.YtflodiljgphkdaaGreat
open Go.RowKit Go.ChangeShapes Go.WideShapes Go.ChangeAt

theorem wrap_i64 {n : Int} (h : -9223372036854775808 ≤ n) (h2 : n ≤ 9223372036854775807) : IntKind.i64.wrap n = n := by
  unfold IntKind.wrap
  simp [IntKind.bits, IntKind.signed]
  omega
/-- a file in memory: its block, and the slice of its bytes -/
def FileIn (w : World) (b : Nat) (v : Value) (f : FV) : Prop := Blk w b 97 [v, .int .i64 (f.sure : Int), .bool f.old] ∧ Buf w 5 v f.bytes
/-- the blocks that it takes -/
def FF (b : Nat) (v : Value) (k : Nat) : Prop := k = b ∨ vblk v = some k
namespace FileIn
variable {w w' : World} {b : Nat} {v : Value} {f : FV}
theorem lt (h : FileIn w b v f) : ∀ k, FF b v k → k < w.heap.size := by
  rintro k (rfl | hk)
  · exact h.1.lt
  · exact h.2.lt k hk
theorem ne (h : FileIn w b v f) : vblk v ≠ some b := h.2.ne_blk h.1 (by decide)
theorem kept {S : Nat → Prop} (h : FileIn w b v f) (hk : Kp S w w') (hs : ∀ k, FF b v k → ¬ S k) : FileIn w' b v f := ⟨h.1.kept hk (hs b (.inl rfl)), h.2.kept hk fun k hk => hs k (.inr hk)⟩
end FileIn
/-- behind what was done with a file -/
def FileUp (w w' : World) (b : Nat) (v : Value) (f : FV) : Prop := ∃ v', FileIn w' b v' f ∧ Kp (FF b v) w w' ∧ ∀ k, vblk v' = some k → vblk v = some k ∨ w.heap.size ≤ k
theorem FileUp.of {w w' : World} {b : Nat} {v : Value} {f : FV} (h : FileIn w' b v f) (hk : Kp (FF b v) w w') : FileUp w w' b v f := ⟨v, h, hk, fun _ hk => .inl hk⟩

set_option maxRecDepth 100000 in
theorem d_put (b : Nat) (v : Value) (f : FV) (s : ByteArray) (w : World) (h : FileIn w b v f) (hs : f.bytes.length + s.size ≤ 1048576) :
    Calls Tryz.prog 71 #[.pointer (some ⟨b, 0, none⟩), .string s] w fun e w' => e = .returned (.tuple #[]) ∧ FileUp w w' b v { f with bytes := f.bytes ++ s.data.toList } := by
  have H := Lib.hid h
  have c0 : w.cell? ⟨b, 0, none⟩ = some v := h.1.cell rfl
  clear h
  obtain ⟨L, hL⟩ : ∃ L, f.bytes ++ s.data.toList = L := ⟨_, rfl⟩
  rw [hL]
  have HL := Lib.hid hL
  clear hL
  go_enter Tryz.func71, Tryz.ntmps71
  go_wp2_with (at_builtin; refine wpList_buf_append rfl w (.tmp 8) (.tmp 9) 88 9 rfl 5 bytely v f.bytes rfl H.out.2 s rfl (by omega) ?_; intro v1 w1 hb1 hk1 hn1; rw [HL.out] at hb1; obtain ⟨A1, n1, rfl, _⟩ := hb1.shape; have HBL := Lib.hid (H.out.1.kept hk1 H.out.ne); have HV := Lib.hid (hb1.ne_blk HBL.out (by decide)); have f0 := HBL.out.fr 0; have c0 := HBL.out.cell (i := 0) rfl; have HB := Lib.hid hb1; have HK := Lib.hid hk1; have HN := Lib.hid hn1; clear hb1 hk1 hn1)
  go_end0
  refine ⟨rfl, _, ⟨HBL.out.set 0 _, HB.out.kept ((Kp.refl (· = b) w1).setCell (p := ⟨b, 0, none⟩) (fun _ => rfl) _) (fun k hk e => HV.out (by rw [hk, e]))⟩, ?_, HN.out⟩
  exact ((HK.out.mono fun k _ hk => .inr hk).setCell (p := ⟨b, 0, none⟩) (fun _ => .inl rfl) _)

set_option maxRecDepth 100000 in
theorem d_settle (b : Nat) (v : Value) (f : FV) (w : World) (h : FileIn w b v f) :
    Calls Tryz.prog 74 #[.pointer (some ⟨b, 0, none⟩)] w fun e w' => e = .returned (.tuple #[]) ∧ FileIn w' b v { f with sure := f.bytes.length } ∧ Kp (· = b) w w' := by
  have H := Lib.hid h
  obtain ⟨A, c, rfl, _⟩ := h.2.shape
  have c0 : w.cell? ⟨b, 0, none⟩ = some _ := h.1.cell rfl
  have c1 : w.cell? ⟨b, 1, none⟩ = some _ := h.1.cell rfl
  have f1 := h.1.fr 1
  clear h
  go_enter Tryz.func74, Tryz.ntmps74
  go_wp2_with fail
  go_end0
  have hk : Kp (· = b) w (w.setCell ⟨b, 1, none⟩ (.int .i64 (f.bytes.length : Int))) := (Kp.refl (· = b) w).setCell (p := ⟨b, 1, none⟩) (fun _ => rfl) _
  exact ⟨rfl, ⟨H.out.1.set 1 _, H.out.2.kept hk (fun k hk e => H.out.ne (by rw [hk, e]))⟩, hk⟩

end Go.Proofs.YtflodiljgphkdaaGreat
