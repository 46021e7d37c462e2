/-
  Lines and a model in memory: loads, lookups.
-/
import Derived.Test.YtbncblnchcmgbaaModM
import Derived.Test.YtbncblnchcmgbaaMod2
namespace Go.Proofs.Ytbncblnchcmgbaa
open Go.RowKit Go.ChangeShapes Go.WideShapes Go.ChangeAt

def zeroO : OpL := ⟨0, 0, 0, 0, 0, 0, ByteArray.empty, 0, []⟩
theorem zero_line (w : World) : (zeroValue 118).run Try.prog w = .ok (lineV ⟨zeroO, 0, 0⟩ (.slice none 0 0)) w := by
  unfold lineV zeroO
  go_simp
  rfl
theorem run_load_line {w : World} {g o : Nat} {a : LineL} {A : Option Addr} {n c : Nat} (h : ∀ (k : Nat) u, (a.cells (.slice A n c))[k]? = some u → w.cell? ⟨g, o + k, none⟩ = some u) :
    (Instr.loadAt 118 (.pointer (some ⟨g, o, none⟩))).run Try.prog w = .ok (lineV a (.slice A n c)) w := by
  have y0 : w.cell? ⟨g, o, none⟩ = some _ := h 0 _ rfl
  have y1 : w.cell? ⟨g, o + 1, none⟩ = some _ := h 1 _ rfl
  have y2 : w.cell? ⟨g, o + 2, none⟩ = some _ := h 2 _ rfl
  have y3 : w.cell? ⟨g, o + 3, none⟩ = some _ := h 3 _ rfl
  have y4 : w.cell? ⟨g, o + 4, none⟩ = some _ := h 4 _ rfl
  have y5 : w.cell? ⟨g, o + 5, none⟩ = some _ := h 5 _ rfl
  have y6 : w.cell? ⟨g, o + 6, none⟩ = some _ := h 6 _ rfl
  have y7 : w.cell? ⟨g, o + 7, none⟩ = some _ := h 7 _ rfl
  have y8 : w.cell? ⟨g, o + 8, none⟩ = some _ := h 8 _ rfl
  have y9 : w.cell? ⟨g, o + 9, none⟩ = some _ := h 9 _ rfl
  have y10 : w.cell? ⟨g, o + 10, none⟩ = some _ := h 10 _ rfl
  clear h
  unfold lineV
  go_simp
theorem run_load_lop {w : World} {y : Nat} {o : OpL} {A : Option Addr} {n c : Nat} {p q : Value} (h : Blk w y 118 [.int .i64 o.n, .int .i64 o.epoch, .int .i64 o.kind, .int .i64 o.site, .int .i64 o.client, .int .i64 o.seq, .string o.name, .int .i64 o.size, .slice A n c, p, q]) :
    (Instr.loadAt 38 (.pointer (some ⟨y, 0, none⟩))).run Try.prog w = .ok (opV o (.slice A n c)) w := by
  have y0 : w.cell? ⟨y, 0, none⟩ = some _ := Blk.cell h rfl
  have y1 : w.cell? ⟨y, 1, none⟩ = some _ := Blk.cell h rfl
  have y2 : w.cell? ⟨y, 2, none⟩ = some _ := Blk.cell h rfl
  have y3 : w.cell? ⟨y, 3, none⟩ = some _ := Blk.cell h rfl
  have y4 : w.cell? ⟨y, 4, none⟩ = some _ := Blk.cell h rfl
  have y5 : w.cell? ⟨y, 5, none⟩ = some _ := Blk.cell h rfl
  have y6 : w.cell? ⟨y, 6, none⟩ = some _ := Blk.cell h rfl
  have y7 : w.cell? ⟨y, 7, none⟩ = some _ := Blk.cell h rfl
  have y8 : w.cell? ⟨y, 8, none⟩ = some _ := Blk.cell h rfl
  clear h
  unfold opV
  go_simp
theorem LnAt.at_ {w : World} {S : Nat → Prop} {g n : Nat} {l : List LineL} (h : LnAt w S g n l) {j : Nat} {a : LineL} (ha : l[j]? = some a) :
    a.nums ∧ ∃ A c, (∀ (k : Nat) u, (a.cells (.slice A a.op.hashes.length c))[k]? = some u → w.cell? ⟨g, j * 11 + k, none⟩ = some u) ∧ Rp.str.slice.R w S [.slice A a.op.hashes.length c] a.op.hashes := by
  obtain ⟨cs, h1, h2, h3, h4⟩ := h
  obtain ⟨h5, A, c, h6, h7⟩ := h4 j a ha
  exact ⟨h5, A, c, fun k u hu => h1.cell (h6 k u hu), h7⟩
theorem MIn.look {w : World} {m b : Nat} {av : Value} {S : Nat → Prop} {M : MV} (h : MIn w m b av S M) (p : Int × Int) : ∃ (a : LineL) (A : Option Addr) (n c : Nat) (B : Bool),
    (∀ w', Kp No w w' → (Instr.lookup 111 (.map (some b)) (spotV p) true).run Try.prog w' = .ok (.tuple #[lineV a (.slice A n c), .bool B]) w') ∧ ((B = true ∧ mget p M.lines = some a ∧ n = a.op.hashes.length ∧ Rp.str.slice.R w S [.slice A n c] a.op.hashes) ∨ (B = false ∧ mget p M.lines = none)) := by
  obtain ⟨u, B, h3, h4⟩ := h.map.look_all (P := Try.prog) spot_key Try.underlying111 p zero_line
  rcases h4 with ⟨rfl, a, cs, h5, rfl, hv, rfl, _, h6⟩ | ⟨rfl, h5, rfl⟩
  · obtain ⟨Av, cv, hv', _⟩ := id h6
    simp only [List.cons.injEq, and_true] at hv'
    subst hv'
    exact ⟨a, Av, _, cv, true, h3, .inl ⟨rfl, h5, rfl, h6⟩⟩
  · exact ⟨⟨zeroO, 0, 0⟩, none, 0, 0, false, h3, .inr ⟨rfl, h5⟩⟩
theorem MIn.nums {w : World} {m b : Nat} {av : Value} {S : Nat → Prop} {M : MV} (h : MIn w m b av S M) {p : Int × Int} {a : LineL} (hg : mget p M.lines = some a) : a.nums := by
  obtain ⟨lv, _, _, h3⟩ := h.map
  obtain ⟨cs, _, hv, _, h4, _⟩ := h3 p a hg
  exact h4
end Go.Proofs.Ytbncblnchcmgbaa
