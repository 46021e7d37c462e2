/-
  A byte of a text's bytes turned; Build with another number of chunks.
-/
import Derived.Test.YtejmbbnndagejaaOwnM
import Derived.Test.YtejmbbnndagejaaK2
import Derived.Test.YtejmbbnndagejaaH4
namespace Go.Proofs.Ytejmbbnndagejaa
open Go.RowKit Go.ChangeShapes Go.WideShapes Go.ChangeAt

theorem run_textM {P : Program} (w : World) (src u e : TypeId) (hb : Bytely P src u e) {base : Nat} {g o c : Nat} {l : List UInt8} (h : OwnM w base e (.slice (some ⟨g, o, none⟩) l.length c) l) :
    (convert src u (.slice (some ⟨g, o, none⟩) l.length c)).run P w = .ok (.string (bs l)) w := by
  obtain ⟨ht, hu, he, _⟩ := hb
  refine run_convert_bytes_back w src u e ⟨g, o, none⟩ c l ht he hu fun j hj => ?_
  obtain ⟨g', o', he', _, _, hc⟩ := h.cell hj
  injection he' with he'
  injection he' with e1 e2
  subst e1 e2
  have e0 : (⟨g, o, none⟩ : Addr).add j = ⟨g, o + j, none⟩ := by
    unfold Addr.add
    split
    · rename_i h; subst h; rfl
    · rfl
  rw [e0, hc, List.getD_eq_getElem?_getD, List.getElem?_eq_getElem hj]; rfl
theorem OwnM.set {w : World} {base : Nat} {e : TypeId} {g c : Nat} {l : List UInt8} (h : OwnM w base e (.slice (some ⟨g, 0, none⟩) l.length c) l) {i : Nat} (hi : i < l.length) (x : UInt8) :
    OwnM (w.setCell ⟨g, i, none⟩ (byteOf x)) base e (.slice (some ⟨g, 0, none⟩) (l.set i x).length c) (l.set i x) ∧ w.frozen? ⟨g, i, none⟩ = false := by
  rcases h with ⟨rfl, _⟩ | ⟨g', o, cap, cur, fr, he, hb, hg, hfr, h1, h2, h3, htk⟩
  · cases hi
  · injection he with e1 e2 e3
    injection e1 with e1
    injection e1 with e1 e4
    subst e1 e3 e4
    rw [List.drop_zero] at htk
    refine ⟨.inr ⟨g, 0, c, cur.setIfInBounds i (byteOf x), fr, rfl, hb, ?_, hfr.size (by simp), by rw [List.length_set]; exact h1, by simpa using h2, h3, ?_⟩, hfr.off hg (by omega)⟩
    · simp [World.setCell, Array.getElem?_modify, hg]
    · rw [List.drop_zero, List.length_set, List.map_set, ← htk]
      simp [List.take_set]

set_option maxRecDepth 100000 in
set_option maxHeartbeats 1000000 in
theorem c_build_len (n : Int) (l : List ByteArray) (A : Option Addr) (c : Nat) (w : World) (S : Nat → Prop) (hl : Rp.str.slice.R w S [.slice A l.length c] l) (h0 : -9223372036854775808 ≤ n) (h1 : n < 9223372036854775808) (hll : l.length ≤ 1000000) (hok : okSheet n l = true)
    (m : Nat) (A2 : Option Addr) (c2 : Nat) (hm : m ≠ l.length) :
    Calls Try.prog 26 #[.agg #[.int .i64 n, .slice A l.length c], .slice A2 m c2] w fun e w' => e = .returned (.tuple #[.string ByteArray.empty, .int .i64 1]) ∧ Kp No w w' := by
  have HL := Lib.hid hl
  clear hl
  go_enter Try.func26, Try.ntmps26
  go_wp2_with fail
  obtain ⟨w1, hw1⟩ : ∃ w1, w.alloc (.cells #[.int .i64 n, .slice A l.length c] 34) = w1 := ⟨_, rfl⟩
  have HB : Hid (Blk w1 w.heap.size 34 [.int .i64 n, .slice A l.length c]) := Lib.hid (by rw [← hw1]; exact Blk.new w _ _)
  have HK1 : Hid (Kp No w w1) := Lib.hid (by rw [← hw1]; exact (Kp.refl _ _).alloc _)
  rw [hw1]
  clear hw1
  refine (c_check n l A c w1 S (Rp.str.slice.keptNo HL.out HK1.out) h0 h1 hll).mono ?_
  rintro e w2 ⟨rfl, hk2⟩
  have HB2 := Lib.hid (HB.out.kept hk2 (fun x => x))
  have HK2 := Lib.hid (HK1.out.trans' hk2)
  have hck : chkN n l = 0 := by unfold chkN; rw [hok]; rfl
  rw [hck]
  have d1 : w2.cell? ⟨w.heap.size, 1, none⟩ = some (.slice A l.length c) := HB2.out.cell rfl
  have hq : ((m : Int) != (l.length : Int)) = true := by simp; omega
  clear hk2 HB HK1 hok hck hm
  go_wp2_with fail
  go_ret2
  exact ⟨rfl, HK2.out⟩
end Go.Proofs.Ytejmbbnndagejaa
