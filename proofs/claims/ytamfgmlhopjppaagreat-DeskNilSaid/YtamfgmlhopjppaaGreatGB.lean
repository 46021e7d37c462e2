/-
  Put together: OpL, Clon, Map, MapR, W32, CutL, Same, C1.
-/
import Derived.Test.YtamfgmlhopjppaaGreatGA
import Derived.Test.YtamfgmlhopjppaaGreatGA2
import Derived.Test.YtamfgmlhopjppaaGreatReg
import Derived.Maps.Own
import Derived.Laws.BitsAllLaws
namespace Go.Proofs.YtamfgmlhopjppaaGreat
section
open Go.RowKit Go.ChangeShapes Go.WideShapes Go.ChangeAt

/-- an operation -/
structure OpL where
  n : Int
  epoch : Int
  kind : Int
  site : Int
  client : Int
  seq : Int
  name : ByteArray
  size : Int
  hashes : List ByteArray
def I64 (x : Int) : Prop := (Lit.int .i64 x).wf = true
namespace OpL
/-- its cells, the hashes as a value -/
def cells (o : OpL) (v : Value) : List Value := [.int .i64 o.n, .int .i64 o.epoch, .int .i64 o.kind, .int .i64 o.site, .int .i64 o.client, .int .i64 o.seq, .string o.name, .int .i64 o.size, v]
/-- its numbers are such -/
def nums (o : OpL) : Prop := I64 o.n ∧ I64 o.epoch ∧ I64 o.kind ∧ I64 o.site ∧ I64 o.client ∧ I64 o.seq ∧ o.name.size ≤ maxLen ∧ I64 o.size
end OpL
def Rp.opl : Rp OpL where
  size := 9
  R w S cs a := ∃ v, cs = a.cells v ∧ a.nums ∧ Rp.str.slice.R w S [v] a.hashes
  μ a := a.name.size + Rp.str.slice.μ a.hashes
  pos := by omega
  len := by rintro w S cs a ⟨v, rfl, _⟩; rfl
  keep := by
    rintro w w' S S' cs a hs hk ⟨v, rfl, h1, h2⟩
    exact ⟨v, rfl, h1, Rp.str.slice.keep hs hk h2⟩
  bnd := by
    rintro w S cs a ⟨v, rfl, h1, h2⟩
    exact ⟨v, rfl, h1, Rp.str.slice.bnd h2⟩
/-- a sheet -/
def Rp.sht : Rp (Int × List ByteArray) where
  size := 2
  R w S cs a := ∃ v, cs = [.int .i64 a.1, v] ∧ I64 a.1 ∧ Rp.str.slice.R w S [v] a.2
  μ a := Rp.str.slice.μ a.2
  pos := by omega
  len := by rintro w S cs a ⟨v, rfl, _⟩; rfl
  keep := by
    rintro w w' S S' cs a hs hk ⟨v, rfl, h1, h2⟩
    exact ⟨v, rfl, h1, Rp.str.slice.keep hs hk h2⟩
  bnd := by
    rintro w S cs a ⟨v, rfl, h1, h2⟩
    exact ⟨v, rfl, h1, Rp.str.slice.bnd h2⟩
theorem Arg.sht {P : Program} {t : TypeId} {f0 f1 : Field} (ht : P.underlying t = some (.struct #[f0, f1])) (ho : [f0.offset, f1.offset] = [0, 1]) (hc : [P.cellsOf f0.type, P.cellsOf f1.type] = [1, 1]) (hct : P.cellsOf t = 2)
    (h0 : P.underlying f0.type = some (.int .i64)) (h1 : Arg P f1.type Rp.str.slice) : Arg P t Rp.sht := by
  intro H enc w spare held fuel cs x h
  obtain ⟨xs, n, _, rfl, hl, hlen, hf⟩ := DataW.trod_struct ht h
  simp only [List.cons.injEq, and_true] at ho hc
  obtain ⟨o0, o1⟩ := ho
  obtain ⟨c0, c1⟩ := hc
  rw [hct] at hl
  match xs, hlen with
  | [y0, y1], _ =>
    have g0 := hf 0 f0 rfl
    have g1 := hf 1 f1 rfl
    match cs, hl with
    | [a, b], _ =>
      rw [o0, c0] at g0
      rw [o1, c1] at g1
      simp only [List.drop_zero, List.drop_succ_cons, List.take_succ_cons, List.take_zero, List.getElem?_cons_zero, List.getElem?_cons_succ] at g0 g1
      obtain ⟨k, e0, e0', w0⟩ := DataW.trod_int h0 g0
      obtain ⟨l, hr, hμ⟩ := h1 g1
      simp only [List.cons.injEq, and_true] at e0
      subst e0
      refine ⟨(k, l), ⟨b, rfl, w0, hr⟩, ?_⟩
      have hμ' : Rp.str.slice.μ l ≤ Rows.uptoBulk y1.1 := hμ
      show Rp.str.slice.μ l ≤ _
      simp only [List.map_cons, List.map_nil, Rows.uptoBulk, Rows.uptoBulkAll]
      omega
theorem Arg.opl {P : Program} {t : TypeId} {f0 f1 f2 f3 f4 f5 f6 f7 : Field} (ht : P.underlying t = some (.struct #[f0, f1, f2, f3, f4, f5, f6, f7])) (ho : [f0.offset, f1.offset, f2.offset, f3.offset, f4.offset, f5.offset, f6.offset, f7.offset] = [0, 1, 2, 3, 4, 5, 6, 7])
    (hc : [P.cellsOf f0.type, P.cellsOf f1.type, P.cellsOf f2.type, P.cellsOf f3.type, P.cellsOf f4.type, P.cellsOf f5.type, P.cellsOf f6.type, P.cellsOf f7.type] = [1, 1, 1, 1, 1, 1, 1, 2]) (hct : P.cellsOf t = 9)
    (h0 : P.underlying f0.type = some (.int .i64)) (h1 : P.underlying f1.type = some (.int .i64)) (h2 : P.underlying f2.type = some (.int .i64)) (h3 : P.underlying f3.type = some (.int .i64)) (h4 : P.underlying f4.type = some (.int .i64)) (h5 : P.underlying f5.type = some (.int .i64)) (h6 : P.underlying f6.type = some .string) (h7 : Arg P f7.type Rp.sht) : Arg P t Rp.opl := by
  intro H enc w spare held fuel cs x h
  obtain ⟨xs, n, _, rfl, hl, hlen, hf⟩ := DataW.trod_struct ht h
  simp only [List.cons.injEq, and_true] at ho hc
  obtain ⟨o0, o1, o2, o3, o4, o5, o6, o7⟩ := ho
  obtain ⟨c0, c1, c2, c3, c4, c5, c6, c7⟩ := hc
  rw [hct] at hl
  match xs, hlen with
  | [y0, y1, y2, y3, y4, y5, y6, y7], _ =>
    have g0 := hf 0 f0 rfl
    have g1 := hf 1 f1 rfl
    have g2 := hf 2 f2 rfl
    have g3 := hf 3 f3 rfl
    have g4 := hf 4 f4 rfl
    have g5 := hf 5 f5 rfl
    have g6 := hf 6 f6 rfl
    have g7 := hf 7 f7 rfl
    match cs, hl with
    | [d0, d1, d2, d3, d4, d5, d6, d7, d8], _ =>
      rw [o0, c0] at g0
      rw [o1, c1] at g1
      rw [o2, c2] at g2
      rw [o3, c3] at g3
      rw [o4, c4] at g4
      rw [o5, c5] at g5
      rw [o6, c6] at g6
      rw [o7, c7] at g7
      simp only [List.drop_zero, List.drop_succ_cons, List.take_succ_cons, List.take_zero, List.getElem?_cons_zero, List.getElem?_cons_succ] at g0 g1 g2 g3 g4 g5 g6 g7
      obtain ⟨k0, e0, _, w0⟩ := DataW.trod_int h0 g0
      obtain ⟨k1, e1, _, w1⟩ := DataW.trod_int h1 g1
      obtain ⟨k2, e2, _, w2⟩ := DataW.trod_int h2 g2
      obtain ⟨k3, e3, _, w3⟩ := DataW.trod_int h3 g3
      obtain ⟨k4, e4, _, w4⟩ := DataW.trod_int h4 g4
      obtain ⟨k5, e5, _, w5⟩ := DataW.trod_int h5 g5
      obtain ⟨s6, e6, e6', w6⟩ := DataW.trod_string h6 g6
      obtain ⟨⟨k7, l7⟩, ⟨v, e7, w7, hr⟩, hμ⟩ := h7 g7
      simp only [List.cons.injEq, and_true] at e0 e1 e2 e3 e4 e5 e6 e7
      obtain ⟨e7, rfl⟩ := e7
      subst e0 e1 e2 e3 e4 e5 e6 e7
      refine ⟨⟨k0, k1, k2, k3, k4, k5, s6, k7, l7⟩, ⟨d8, rfl, ⟨w0, w1, w2, w3, w4, w5, w6, w7⟩, hr⟩, ?_⟩
      have hμ' : Rp.str.slice.μ l7 ≤ Rows.uptoBulk y7.1 := hμ
      have b6 : s6.size ≤ Rows.uptoBulk y6.1 := by rw [e6']; simp [Rows.uptoBulk]
      show s6.size + Rp.str.slice.μ l7 ≤ _
      simp only [List.map_cons, List.map_nil, Rows.uptoBulk, Rows.uptoBulkAll]
      omega

/-- a command -/
structure CmdL where
  kind : Int
  epoch : Int
  site : Int
  op : OpL
  after : Int
  since : Int
  ops : List OpL
  tag : Int
namespace CmdL
/-- its cells, the hashes and the operations as values -/
def cells (c : CmdL) (hv ov : Value) : List Value := [.int .i64 c.kind, .int .i64 c.epoch, .int .i64 c.site] ++ c.op.cells hv ++ [.int .i64 c.after, .int .i64 c.since, ov, .int .i64 c.tag]
def nums (c : CmdL) : Prop := I64 c.kind ∧ I64 c.epoch ∧ I64 c.site ∧ c.op.nums ∧ I64 c.after ∧ I64 c.since ∧ I64 c.tag
end CmdL
def Rp.cmd : Rp CmdL where
  size := 16
  R w S cs a := ∃ hv ov, cs = a.cells hv ov ∧ a.nums ∧ Rp.str.slice.R w S [hv] a.op.hashes ∧ Rp.opl.slice.R w S [ov] a.ops
  μ a := Rp.opl.μ a.op + Rp.opl.slice.μ a.ops
  pos := by omega
  len := by rintro w S cs a ⟨hv, ov, rfl, _⟩; rfl
  keep := by
    rintro w w' S S' cs a hs hk ⟨hv, ov, rfl, h1, h2, h3⟩
    exact ⟨hv, ov, rfl, h1, Rp.str.slice.keep hs hk h2, Rp.opl.slice.keep hs hk h3⟩
  bnd := by
    rintro w S cs a ⟨hv, ov, rfl, h1, h2, h3⟩
    exact ⟨hv, ov, rfl, h1, Rp.str.slice.bnd h2, Rp.opl.slice.bnd h3⟩
theorem Arg.cmd {P : Program} {t : TypeId} {f0 f1 f2 f3 f4 f5 f6 f7 : Field} (ht : P.underlying t = some (.struct #[f0, f1, f2, f3, f4, f5, f6, f7])) (ho : [f0.offset, f1.offset, f2.offset, f3.offset, f4.offset, f5.offset, f6.offset, f7.offset] = [0, 1, 2, 3, 12, 13, 14, 15])
    (hc : [P.cellsOf f0.type, P.cellsOf f1.type, P.cellsOf f2.type, P.cellsOf f3.type, P.cellsOf f4.type, P.cellsOf f5.type, P.cellsOf f6.type, P.cellsOf f7.type] = [1, 1, 1, 9, 1, 1, 1, 1]) (hct : P.cellsOf t = 16)
    (h0 : P.underlying f0.type = some (.int .i64)) (h1 : P.underlying f1.type = some (.int .i64)) (h2 : P.underlying f2.type = some (.int .i64)) (h3 : Arg P f3.type Rp.opl) (h4 : P.underlying f4.type = some (.int .i64)) (h5 : P.underlying f5.type = some (.int .i64)) (h6 : Arg P f6.type Rp.opl.slice) (h7 : P.underlying f7.type = some (.int .i64)) : Arg P t Rp.cmd := by
  intro H enc w spare held fuel cs x h
  obtain ⟨xs, n, _, rfl, hl, hlen, hf⟩ := DataW.trod_struct ht h
  simp only [List.cons.injEq, and_true] at ho hc
  obtain ⟨o0, o1, o2, o3, o4, o5, o6, o7⟩ := ho
  obtain ⟨c0, c1, c2, c3, c4, c5, c6, c7⟩ := hc
  rw [hct] at hl
  match xs, hlen with
  | [y0, y1, y2, y3, y4, y5, y6, y7], _ =>
    have g0 := hf 0 f0 rfl
    have g1 := hf 1 f1 rfl
    have g2 := hf 2 f2 rfl
    have g3 := hf 3 f3 rfl
    have g4 := hf 4 f4 rfl
    have g5 := hf 5 f5 rfl
    have g6 := hf 6 f6 rfl
    have g7 := hf 7 f7 rfl
    match cs, hl with
    | [d0, d1, d2, d3, d4, d5, d6, d7, d8, d9, d10, d11, d12, d13, d14, d15], _ =>
      rw [o0, c0] at g0
      rw [o1, c1] at g1
      rw [o2, c2] at g2
      rw [o3, c3] at g3
      rw [o4, c4] at g4
      rw [o5, c5] at g5
      rw [o6, c6] at g6
      rw [o7, c7] at g7
      simp only [List.drop_zero, List.drop_succ_cons, List.take_succ_cons, List.take_zero, List.getElem?_cons_zero, List.getElem?_cons_succ] at g0 g1 g2 g3 g4 g5 g6 g7
      obtain ⟨k0, e0, _, w0⟩ := DataW.trod_int h0 g0
      obtain ⟨k1, e1, _, w1⟩ := DataW.trod_int h1 g1
      obtain ⟨k2, e2, _, w2⟩ := DataW.trod_int h2 g2
      obtain ⟨op, ⟨hv, e3, w3, hr3⟩, hμ3⟩ := h3 g3
      obtain ⟨k4, e4, _, w4⟩ := DataW.trod_int h4 g4
      obtain ⟨k5, e5, _, w5⟩ := DataW.trod_int h5 g5
      obtain ⟨l6, hr6, hμ6⟩ := h6 g6
      obtain ⟨k7, e7, _, w7⟩ := DataW.trod_int h7 g7
      unfold OpL.cells at e3
      simp only [List.cons.injEq, and_true] at e0 e1 e2 e3 e4 e5 e7
      obtain ⟨p0, p1, p2, p3, p4, p5, p6, p7, p8⟩ := e3
      subst e0 e1 e2 e4 e5 e7 p0 p1 p2 p3 p4 p5 p6 p7 p8
      refine ⟨⟨k0, k1, k2, op, k4, k5, l6, k7⟩, ⟨_, d14, rfl, ⟨w0, w1, w2, w3, w4, w5, w7⟩, hr3, hr6⟩, ?_⟩
      have h3' : Rp.opl.μ op ≤ Rows.uptoBulk y3.1 := hμ3
      have h6' : Rp.opl.slice.μ l6 ≤ Rows.uptoBulk y6.1 := hμ6
      show Rp.opl.μ op + Rp.opl.slice.μ l6 ≤ _
      simp only [List.map_cons, List.map_nil, Rows.uptoBulk, Rows.uptoBulkAll]
      omega

/-- one of a list of operations -/
theorem Rp.at_opl {w : World} {S : Nat → Prop} {A : Option Addr} {c : Nat} {l : List OpL} (h : Rp.opl.slice.R w S [.slice A l.length c] l) {i : Nat} {o : OpL} (hi : l[i]? = some o) :
    ∃ ad A' c', A = some ad ∧ S ad.block ∧ (∀ (j : Nat) u, (o.cells (.slice A' o.hashes.length c'))[j]? = some u → w.cell? ((ad.add (i * 9)).add j) = some u) ∧ o.nums ∧ Rp.str.slice.R w S [.slice A' o.hashes.length c'] o.hashes := by
  obtain ⟨A2, c2, he, _, _, h3⟩ := h
  simp only [List.cons.injEq, Value.slice.injEq, and_true, true_and] at he
  obtain ⟨rfl, rfl⟩ := he
  have hl : 0 < l.length := by have := (List.getElem?_eq_some_iff.1 hi).1; omega
  obtain ⟨ad, rfl, hb, hc⟩ := h3 hl
  obtain ⟨es, he, v, rfl, hn, hks⟩ := hc i o hi
  obtain ⟨A', c', hv, _⟩ := id hks
  simp only [List.cons.injEq, and_true] at hv
  subst hv
  exact ⟨ad, A', c', rfl, hb, fun j u hu => he j u hu, hn, hks⟩
end

section
open Go.RowKit Go.ChangeShapes Go.WideShapes Go.ChangeAt

theorem el_strL : Elem Tryz.prog 32 9 1 16 := Elem.of Tryz.underlying32 (z := .string ByteArray.empty) (by kernel_rfl) rfl (by decide)
theorem el_op : Elem Tryz.prog 37 36 9 96 := Elem.of Tryz.underlying37 (z := .agg #[.int .i64 0, .int .i64 0, .int .i64 0, .int .i64 0, .int .i64 0, .int .i64 0, .string ByteArray.empty, .int .i64 0, .slice none 0 0]) (by kernel_rfl) rfl (by decide)
theorem Rp.opl_one {w : World} : ∀ cs a S', Rp.opl.R w S' cs a → ∀ u ∈ cs, u.oneCell' = true := by
  rintro cs a S' ⟨v, rfl, _, A, c, hv, _⟩ u hu
  simp only [List.cons.injEq, and_true] at hv
  subst hv
  simp only [OpL.cells, List.mem_cons, List.not_mem_nil, or_false] at hu
  rcases hu with rfl | rfl | rfl | rfl | rfl | rfl | rfl | rfl | rfl <;> rfl
theorem nil_of_none {α : Type} {E : Rp α} {w : World} {S : Nat → Prop} {c : Nat} {l : List α} (h : E.slice.R w S [.slice none l.length c] l) : l = [] := by
  obtain ⟨A, c', he, _, _, h3⟩ := h
  simp only [List.cons.injEq, Value.slice.injEq, and_true, true_and] at he
  obtain ⟨rfl, rfl⟩ := he
  rcases Nat.eq_zero_or_pos l.length with h | h
  · exact List.eq_nil_of_length_eq_zero h
  · obtain ⟨ad, he, _⟩ := h3 h
    cases he
set_option maxRecDepth 100000 in
set_option maxHeartbeats 1000000 in
theorem c_cloneS (l : List ByteArray) (A : Option Addr) (c : Nat) (w : World) (S : Nat → Prop) (hl : Rp.str.slice.R w S [.slice A l.length c] l) (hll : l.length ≤ 1000000) :
    Calls Tryz.prog 117 #[.slice A l.length c] w fun e w' => ∃ A' c', e = .returned (.slice A' l.length c') ∧ Own Rp.str w' No w.heap.size 9 (.slice A' l.length c') l ∧ Kp No w w' := by
  cases A with
  | none =>
    obtain rfl := nil_of_none hl
    have he : (binOp .eql 32 (.slice none 0 c) (.slice none 0 0)).run Tryz.prog w = .ok (.bool true) w := run_eql_nil_slice w _ 9 none 0 c 0 0 Tryz.underlying32
    clear hl
    show Calls Tryz.prog _ #[.slice none 0 c] w _
    go_enter Tryz.func117, Tryz.ntmps117
    go_wp2_with fail
    go_ret
    exact ⟨_, _, rfl, Own.nil _ _ _ _ _, Kp.refl _ _⟩
  | some a =>
    have HL := Lib.hid hl
    have he : (binOp .eql 32 (.slice (some a) l.length c) (.slice none 0 0)).run Tryz.prog w = .ok (.bool false) w := by
      simp only [binOp]
      simp [Op.equal, Op.maxDepth, Lib.run_equalIn_slice_nil w 9999 32 9 (some a) l.length c 0 0 Tryz.underlying32]
    clear hl
    go_enter Tryz.func117, Tryz.ntmps117
    go_wp2_with (at_builtin; refine wpList_copy_lit (E := Rp.str) rfl w (.tmp 5) (.tmp 6) 32 rfl 9 16 el_strL rfl (some a) c S l rfl HL.out Rp.str_one (by omega) ?_; intro A' c' w' hown hk; have HO := Lib.hid (hown.str_any No); have HK := Lib.hid hk; clear hown hk)
    go_ret
    exact ⟨A', c', rfl, HO.out, HK.out⟩
set_option maxRecDepth 100000 in
set_option maxHeartbeats 1000000 in
theorem c_cloneO (l : List OpL) (A : Option Addr) (c : Nat) (w : World) (S : Nat → Prop) (hl : Rp.opl.slice.R w S [.slice A l.length c] l) (hll : l.length ≤ 1000000) :
    Calls Tryz.prog 116 #[.slice A l.length c] w fun e w' => ∃ A' c', e = .returned (.slice A' l.length c') ∧ Own Rp.opl w' S w.heap.size 36 (.slice A' l.length c') l ∧ Kp No w w' := by
  cases A with
  | none =>
    obtain rfl := nil_of_none hl
    have he : (binOp .eql 37 (.slice none 0 c) (.slice none 0 0)).run Tryz.prog w = .ok (.bool true) w := run_eql_nil_slice w _ 36 none 0 c 0 0 Tryz.underlying37
    clear hl
    show Calls Tryz.prog _ #[.slice none 0 c] w _
    go_enter Tryz.func116, Tryz.ntmps116
    go_wp2_with fail
    go_ret
    exact ⟨_, _, rfl, Own.nil _ _ _ _ _, Kp.refl _ _⟩
  | some a =>
    have HL := Lib.hid hl
    have he : (binOp .eql 37 (.slice (some a) l.length c) (.slice none 0 0)).run Tryz.prog w = .ok (.bool false) w := by
      simp only [binOp]
      simp [Op.equal, Op.maxDepth, Lib.run_equalIn_slice_nil w 9999 37 36 (some a) l.length c 0 0 Tryz.underlying37]
    clear hl
    go_enter Tryz.func116, Tryz.ntmps116
    go_wp2_with (at_builtin; refine wpList_copy_lit (E := Rp.opl) rfl w (.tmp 5) (.tmp 6) 37 rfl 36 96 el_op rfl (some a) c S l rfl HL.out Rp.opl_one (by omega) ?_; intro A' c' w' hown hk; have HO := Lib.hid hown; have HK := Lib.hid hk; clear hown hk)
    go_ret
    exact ⟨A', c', rfl, HO.out, HK.out⟩
end

section
open Go.RowKit Go.ChangeShapes Go.WideShapes Go.ChangeAt

/-- the first entry of a key: its place and its value -/
def findIx {κ : Type} [DecidableEq κ] (k : κ) : List (κ × Value) → Option (Nat × Value)
  | [] => none
  | (k', v) :: l => if k = k' then some (0, v) else (findIx k l).map fun x => (x.1 + 1, x.2)
/-- what a map has at a key -/
def mget {κ ν : Type} [DecidableEq κ] (k : κ) : List (κ × ν) → Option ν
  | [] => none
  | (k', v) :: l => if k = k' then some v else mget k l
/-- a store: in its place, or behind all others -/
def mput {κ ν : Type} [DecidableEq κ] (k : κ) (v : ν) : List (κ × ν) → List (κ × ν)
  | [] => [(k, v)]
  | (k', v') :: l => if k = k' then (k, v) :: l else (k', v') :: mput k v l
/-- a delete -/
def mdel {κ ν : Type} [DecidableEq κ] (k : κ) : List (κ × ν) → List (κ × ν)
  | [] => []
  | (k', v') :: l => if k = k' then l else (k', v') :: mdel k l

section
variable {κ ν : Type} [DecidableEq κ]
theorem mget_put_same (k : κ) (v : ν) : ∀ l : List (κ × ν), mget k (mput k v l) = some v
  | [] => by simp [mput, mget]
  | (k', v') :: l => by
    unfold mput
    split
    · simp [mget]
    · rename_i h; rw [mget, if_neg h]; exact mget_put_same k v l
theorem mget_put_other {k k2 : κ} (v : ν) (h : k2 ≠ k) : ∀ l : List (κ × ν), mget k2 (mput k v l) = mget k2 l
  | [] => by simp [mput, mget, h]
  | (k', v') :: l => by
    unfold mput
    split
    · rename_i e; subst e; simp [mget, h]
    · simp only [mget]; rw [mget_put_other v h l]
theorem mget_put (k k2 : κ) (v : ν) (l : List (κ × ν)) : mget k2 (mput k v l) = if k2 = k then some v else mget k2 l := by
  split
  · rename_i h; subst h; exact mget_put_same _ _ _
  · rename_i h; exact mget_put_other v h l
theorem mem_keys_mput (k k2 : κ) (v : ν) : ∀ l : List (κ × ν), k2 ∈ (mput k v l).map (·.1) ↔ k2 = k ∨ k2 ∈ l.map (·.1)
  | [] => by simp [mput]
  | (k', v') :: l => by
    unfold mput
    split
    · rename_i e; subst e; simp
    · simp only [List.map_cons, List.mem_cons, mem_keys_mput k k2 v l]
      constructor
      · rintro (h | h | h) <;> simp [h]
      · rintro (h | h | h) <;> simp [h]
theorem nodup_mput (k : κ) (v : ν) : ∀ l : List (κ × ν), (l.map (·.1)).Nodup → ((mput k v l).map (·.1)).Nodup
  | [], _ => by simp [mput]
  | (k', v') :: l, h => by
    simp only [List.map_cons, List.nodup_cons] at h
    unfold mput
    split
    · rename_i e; subst e; simpa using h
    · rename_i e
      simp only [List.map_cons, List.nodup_cons]
      refine ⟨fun hm => ?_, nodup_mput k v l h.2⟩
      rcases (mem_keys_mput k k' v l).1 hm with h1 | h1
      · exact e h1.symm
      · exact h.1 h1
theorem mget_none_iff (k : κ) : ∀ l : List (κ × ν), mget k l = none ↔ k ∉ l.map (·.1)
  | [] => by simp [mget]
  | (k', v') :: l => by
    simp only [mget, List.map_cons, List.mem_cons, not_or]
    split
    · rename_i e; simp [e]
    · rename_i e; rw [mget_none_iff k l]; simp [e]
theorem mem_keys_mdel {k k2 : κ} : ∀ {l : List (κ × ν)}, k2 ∈ (mdel k l).map (·.1) → k2 ∈ l.map (·.1)
  | (k', v') :: l, h => by
    unfold mdel at h
    split at h
    · exact List.mem_cons_of_mem _ h
    · simp only [List.map_cons, List.mem_cons] at h ⊢
      rcases h with h | h
      · exact .inl h
      · exact .inr (mem_keys_mdel h)
theorem nodup_mdel (k : κ) : ∀ l : List (κ × ν), (l.map (·.1)).Nodup → ((mdel k l).map (·.1)).Nodup
  | [], _ => by simp [mdel]
  | (k', v') :: l, h => by
    simp only [List.map_cons, List.nodup_cons] at h
    unfold mdel
    split
    · exact h.2
    · simp only [List.map_cons, List.nodup_cons]
      exact ⟨fun hm => h.1 (mem_keys_mdel hm), nodup_mdel k l h.2⟩
theorem mget_del (k k2 : κ) : ∀ l : List (κ × ν), (l.map (·.1)).Nodup → mget k2 (mdel k l) = if k2 = k then none else mget k2 l
  | [], _ => by simp [mdel, mget]
  | (k', v') :: l, h => by
    simp only [List.map_cons, List.nodup_cons] at h
    unfold mdel
    split
    · rename_i e
      subst e
      split
      · rename_i e2; subst e2; exact (mget_none_iff _ _).2 h.1
      · rename_i e2; rw [mget, if_neg e2]
    · rename_i e
      simp only [mget]
      rw [mget_del k k2 l h.2]
      by_cases e2 : k2 = k
      · subst e2; rw [if_neg e, if_pos rfl, if_pos rfl]
      · rw [if_neg e2, if_neg e2]
end

theorem bytes_beq (a b : ByteArray) : (a == b) = decide (a = b) := by
  by_cases h : a = b
  · subst h; simp only [decide_true]
    show (a.data == a.data) = true
    simp
  · simp only [h, decide_false]
    show (a.data == b.data) = false
    rw [beq_eq_false_iff_ne]
    intro e
    apply h
    cases a; cases b; simp_all

/-- Keys of a type, as Lean's values: how they are found. -/
structure KeyOk (P : Program) (T : TypeId) {κ : Type} [DecidableEq κ] (enc : κ → Value) : Prop where
  inj : ∀ a b, enc a = enc b → a = b
  check : ∀ b k w, (Instr.checkKey b 10000 T (enc k)).run P w = .ok () w
  find : ∀ (k : κ) (l : List (κ × Value)) (es : List MapEntry) w, es.map (fun e => (e.key, e.val)) = l.map (fun p => (enc p.1, p.2)) → (Instr.findKey T (enc k) es).run P w = .ok (findIx k l) w
  stays : ∀ k w, (Instr.keyThatStays (enc k) (enc k)).run P w = .ok (enc k) w

/-- Block b is a map of just these entries. -/
def MapOf {κ : Type} (w : World) (b : Nat) (enc : κ → Value) (l : List (κ × Value)) : Prop :=
  ∃ es clock, w.heap[b]? = some (.map es clock) ∧ es.toList.map (fun e => (e.key, e.val)) = l.map (fun p => (enc p.1, p.2)) ∧ (l.map (·.1)).Nodup ∧
    (∀ e ∈ es, e.born < clock) ∧ (es.toList.map (·.born)).Nodup

theorem findNow_eq {κ : Type} [DecidableEq κ] (kind : TypeDesc) (enc : κ → Value) (hsame : ∀ a b, Instr.sameNow kind (enc a) (enc b) = some (decide (a = b))) (k : κ) : ∀ (l : List (κ × Value)) (es : List MapEntry) (i : Nat),
    es.map (fun e => (e.key, e.val)) = l.map (fun p => (enc p.1, p.2)) → Instr.findNow kind (enc k) es i = some ((findIx k l).map fun x => (x.1 + i, x.2))
  | [], [], i, _ => rfl
  | [], _ :: _, _, h => by cases h
  | _ :: _, [], _, h => by cases h
  | (k', v) :: l, e :: es, i, h => by
    simp only [List.map_cons, List.cons.injEq, Prod.mk.injEq] at h
    obtain ⟨⟨h1, h2⟩, h3⟩ := h
    unfold Instr.findNow
    rw [h1, hsame]
    by_cases hk : k = k'
    · simp [hk, findIx, h2]
    · simp only [hk, decide_false]
      rw [findNow_eq kind enc hsame k l es (i + 1) h3]
      simp only [findIx, if_neg hk, Option.map_map, Option.some.injEq]
      congr 1
      funext x
      simp only [Function.comp, Prod.mk.injEq, and_true]
      omega

theorem KeyOk.string {P : Program} {T : TypeId} (hT : P.underlying T = some .string) : KeyOk P T (κ := ByteArray) Value.string where
  inj a b h := by injection h
  check b k w := by
    unfold Instr.checkKey
    simp [run_underlying hT]
  find k l es w h := by
    unfold Instr.findKey
    simp only [Sem.run_bind, run_underlying hT, Result.andThen_ok]
    rw [findNow_eq .string Value.string (fun a b => by simp [Instr.sameNow, bytes_beq]) k l es 0 h]
    simp
  stays k w := by
    unfold Instr.keyThatStays
    simp [Instr.sameBits, bytes_beq]

theorem KeyOk.int {P : Program} {T : TypeId} {q : IntKind} (hT : P.underlying T = some (.int q)) : KeyOk P T (κ := Int) (Value.int q) where
  inj a b h := by injection h
  check b k w := by
    unfold Instr.checkKey
    simp [run_underlying hT]
  find k l es w h := by
    unfold Instr.findKey
    simp only [Sem.run_bind, run_underlying hT, Result.andThen_ok]
    rw [findNow_eq (.int q) (Value.int q) (fun a b => by simp [Instr.sameNow]; rfl) k l es 0 h]
    simp
  stays k w := by
    unfold Instr.keyThatStays
    simp [Instr.sameBits]

set_option linter.unusedSectionVars false
section
variable {P : Program} {T K E : TypeId} {κ : Type} [DecidableEq κ] {enc : κ → Value} {w w' : World} {b : Nat} {l : List (κ × Value)}

theorem findIx_get (k : κ) : ∀ l : List (κ × Value), (findIx k l).map (·.2) = mget k l
  | [] => rfl
  | (k', v) :: l => by
    unfold findIx mget
    split
    · rfl
    · rw [← findIx_get k l, Option.map_map]; rfl

theorem MapOf.lt (h : MapOf w b enc l) : b < w.heap.size := by
  obtain ⟨es, clock, hb, _⟩ := h
  exact (Array.getElem?_eq_some_iff.1 hb).1
theorem MapOf.kept {S : Nat → Prop} (h : MapOf w b enc l) (hk : Kp S w w') (hs : ¬ S b) : MapOf w' b enc l := by
  have hlt := h.lt
  obtain ⟨es, clock, hb, h2⟩ := h
  exact ⟨es, clock, (hk.block b hlt hs).trans hb, h2⟩
theorem MapOf.made (w : World) : MapOf (w.alloc (.map #[] 0)) w.heap.size enc [] :=
  ⟨#[], 0, by show (w.heap.push _)[w.heap.size]? = _; simp, by simp, by simp, by simp, by simp⟩

/-- m[k] -/
theorem MapOf.look (hK : KeyOk P K enc) (ht : P.underlying T = some (.map K E)) (h : MapOf w b enc l) (k : κ) {z : Value} (hz : (zeroValue E).run P w = .ok z w) :
    (Instr.lookup T (.map (some b)) (enc k) false).run P w = .ok ((mget k l).getD z) w := by
  obtain ⟨es, clock, hb, h1, _⟩ := h
  unfold Instr.lookup
  simp only [Sem.run_bind, run_underlying ht, Result.andThen_ok]
  have hg : (getObj b).run P w = .ok (.map es clock) w := by show (Sem.getObj b Sem.pure).run P w = _; simp [Sem.run, hb]
  have hf := hK.find k l es.toList w h1
  rw [← findIx_get]
  cases hx : findIx k l with
  | none => rw [hx] at hf; simp [hg, hK.check, hf, hz]
  | some x => rw [hx] at hf; simp [hg, hK.check, hf]
/-- v, ok := m[k] -/
theorem MapOf.look_ok (hK : KeyOk P K enc) (ht : P.underlying T = some (.map K E)) (h : MapOf w b enc l) (k : κ) {z : Value} (hz : (zeroValue E).run P w = .ok z w) :
    (Instr.lookup T (.map (some b)) (enc k) true).run P w = .ok (.tuple #[(mget k l).getD z, .bool (mget k l).isSome]) w := by
  obtain ⟨es, clock, hb, h1, _⟩ := h
  unfold Instr.lookup
  simp only [Sem.run_bind, run_underlying ht, Result.andThen_ok]
  have hg : (getObj b).run P w = .ok (.map es clock) w := by show (Sem.getObj b Sem.pure).run P w = _; simp [Sem.run, hb]
  have hf := hK.find k l es.toList w h1
  rw [← findIx_get]
  cases hx : findIx k l with
  | none => rw [hx] at hf; simp [hg, hK.check, hf, hz]
  | some x => rw [hx] at hf; simp [hg, hK.check, hf]
theorem map_eraseIdx {α β : Type} (f : α → β) : ∀ (l : List α) (i : Nat), (l.eraseIdx i).map f = (l.map f).eraseIdx i
  | [], _ => rfl
  | _ :: _, 0 => rfl
  | x :: l, i + 1 => by simp [map_eraseIdx f l i]
theorem mput_of_some {k : κ} {v : Value} : ∀ {l : List (κ × Value)} {i : Nat} {v0 : Value}, findIx k l = some (i, v0) → mput k v l = l.modify i (fun _ => (k, v)) ∧ (l[i]?).map (·.1) = some k
  | [], _, _, h => by cases h
  | (k', v') :: l, i, v0, h => by
    unfold findIx at h
    unfold mput
    split at h
    · rename_i e
      subst e
      simp only [Option.some.injEq, Prod.mk.injEq] at h
      obtain ⟨rfl, _⟩ := h
      simp
    · rename_i e
      rw [if_neg e]
      cases hf : findIx k l with
      | none => rw [hf] at h; cases h
      | some x =>
        rw [hf] at h
        simp only [Option.map_some, Option.some.injEq, Prod.mk.injEq] at h
        obtain ⟨rfl, _⟩ := h
        obtain ⟨h1, h2⟩ := mput_of_some (v := v) (i := x.1) (v0 := x.2) hf
        rw [h1]
        simp [h2]
theorem mput_of_none {k : κ} {v : Value} : ∀ {l : List (κ × Value)}, findIx k l = none → mput k v l = l ++ [(k, v)]
  | [], _ => rfl
  | (k', v') :: l, h => by
    unfold findIx at h
    unfold mput
    split at h
    · cases h
    · rename_i e
      rw [if_neg e]
      cases hf : findIx k l with
      | none => rw [mput_of_none hf]; rfl
      | some x => rw [hf] at h; cases h
theorem mdel_of_some {k : κ} : ∀ {l : List (κ × Value)} {i : Nat} {v0 : Value}, findIx k l = some (i, v0) → mdel k l = l.eraseIdx i
  | [], _, _, h => by cases h
  | (k', v') :: l, i, v0, h => by
    unfold findIx at h
    unfold mdel
    split at h
    · rename_i e
      subst e
      simp only [Option.some.injEq, Prod.mk.injEq] at h
      obtain ⟨rfl, _⟩ := h
      simp
    · rename_i e
      rw [if_neg e]
      cases hf : findIx k l with
      | none => rw [hf] at h; cases h
      | some x =>
        rw [hf] at h
        simp only [Option.map_some, Option.some.injEq, Prod.mk.injEq] at h
        obtain ⟨rfl, _⟩ := h
        rw [mdel_of_some (i := x.1) (v0 := x.2) hf]
        rfl
theorem mdel_of_none {k : κ} : ∀ {l : List (κ × Value)}, findIx k l = none → mdel k l = l
  | [], _ => rfl
  | (k', v') :: l, h => by
    unfold findIx at h
    unfold mdel
    split at h
    · cases h
    · rename_i e
      rw [if_neg e]
      cases hf : findIx k l with
      | none => rw [mdel_of_none hf]
      | some x => rw [hf] at h; cases h

/-- a map's block written anew -/
def setMap (w : World) (b : Nat) (o : Obj) : World := { w with heap := w.heap.setIfInBounds b o }
theorem setMap_at {o : Obj} (hb : b < w.heap.size) : (setMap w b o).heap[b]? = some o := by
  show (w.heap.setIfInBounds b o)[b]? = _
  simp [hb]
theorem setMap_kp (w : World) (b : Nat) (o : Obj) : Kp (· = b) w (setMap w b o) :=
  ⟨rfl, rfl, by show w.heap.size ≤ (w.heap.setIfInBounds b o).size; simp, fun k _ hn => by
    show (w.heap.setIfInBounds b o)[k]? = _
    rw [Array.getElem?_setIfInBounds_ne (fun e => hn e.symm)]⟩
theorem run_setObj {es : Array MapEntry} {clock : Nat} {o : Obj} (hb : w.heap[b]? = some (.map es clock)) : (setObj b o).run P w = .ok () (setMap w b o) := by
  show (Sem.setObj b o (Sem.pure ())).run P w = _
  simp [Sem.run, hb, setMap]

/-- m[k] = v -/
theorem MapOf.update (hK : KeyOk P K enc) (ht : P.underlying T = some (.map K E)) (h : MapOf w b enc l) (k : κ) (v : Value) :
    ∃ w', (Instr.mapUpdate T (.map (some b)) (enc k) v).run P w = .ok () w' ∧ MapOf w' b enc (mput k v l) ∧ Kp (· = b) w w' := by
  have hlt := h.lt
  obtain ⟨es, clock, hb, h1, h2, h3, h4⟩ := h
  have hg : (getObj b).run P w = .ok (.map es clock) w := by show (Sem.getObj b Sem.pure).run P w = _; simp [Sem.run, hb]
  have hf := hK.find k l es.toList w h1
  cases hx : findIx k l with
  | none =>
    rw [hx] at hf
    refine ⟨setMap w b (.map (es.push { key := enc k, val := v, born := clock }) (clock + 1)), ?_, ⟨_, _, setMap_at hlt, ?_, nodup_mput k v l h2, ?_, ?_⟩, setMap_kp _ _ _⟩
    · unfold Instr.mapUpdate
      simp [run_underlying ht, hg, hK.check, hf, run_setObj hb]
    · rw [mput_of_none hx]
      simp [h1]
    · intro e he
      rcases Array.mem_push.1 he with he | rfl
      · have := h3 e he; omega
      · simp
    · rw [Array.toList_push, List.map_append, List.nodup_append]
      refine ⟨h4, by simp, ?_⟩
      intro a ha c hc
      simp only [List.map_cons, List.map_nil, List.mem_cons, List.not_mem_nil, or_false] at hc
      obtain ⟨e, he, rfl⟩ := List.mem_map.1 ha
      have := h3 e (by simpa using he)
      omega
  | some x =>
    obtain ⟨i, v0⟩ := x
    rw [hx] at hf
    obtain ⟨h5, h6⟩ := mput_of_some (v := v) hx
    have hkey : (es[i]?).map (·.key) = some (enc k) := by
      have := congrArg (fun (l : List (Value × Value)) => (l[i]?).map (·.1)) h1
      simp only [List.getElem?_map, Option.map_map, Array.getElem?_toList] at this
      cases hi : l[i]? with
      | none => rw [hi] at h6; cases h6
      | some p =>
        rw [hi] at h6 this
        simp only [Option.map_some, Option.some.injEq] at h6
        rw [← h6]
        cases he : es[i]? with
        | none => rw [he] at this; cases this
        | some e => rw [he] at this; simpa using this
    refine ⟨setMap w b (.map (es.modify i fun e => { e with key := enc k, val := v }) clock), ?_, ⟨_, _, setMap_at hlt, ?_, nodup_mput k v l h2, ?_, ?_⟩, setMap_kp _ _ _⟩
    · unfold Instr.mapUpdate
      simp [run_underlying ht, hg, hK.check, hf, run_setObj hb, hkey, hK.stays]
    · rw [h5]
      apply List.ext_getElem?
      intro j
      have hj := congrArg (fun (l : List (Value × Value)) => l[j]?) h1
      simp only [List.getElem?_map, Array.getElem?_toList] at hj
      simp only [List.getElem?_map, Array.getElem?_toList, Array.getElem?_modify, List.getElem?_modify]
      by_cases hij : i = j
      · subst hij
        cases he : es[i]? <;> cases hl : l[i]? <;> simp_all
      · simp only [hij, ↓reduceIte]
        cases he : es[j]? <;> cases hl : l[j]? <;> simp_all
    · intro e he
      obtain ⟨j, hj⟩ := Array.mem_iff_getElem?.1 he
      rw [Array.getElem?_modify] at hj
      by_cases hij : i = j
      · subst hij
        simp only [if_true] at hj
        cases he0 : es[i]? with
        | none => rw [he0] at hj; cases hj
        | some e0 =>
          rw [he0] at hj
          simp only [Option.map_some, Option.some.injEq] at hj
          subst hj
          exact h3 e0 (Array.mem_of_getElem? he0)
      · simp only [hij, if_false] at hj
        exact h3 e (Array.mem_of_getElem? hj)
    · have : (es.modify i fun e => { e with key := enc k, val := v }).toList.map (·.born) = es.toList.map (·.born) := by
        apply List.ext_getElem?
        intro j
        simp only [List.getElem?_map, Array.getElem?_toList, Array.getElem?_modify]
        by_cases hij : i = j
        · subst hij; cases es[i]? <;> simp
        · simp [hij]
      rw [this]; exact h4

/-- delete(m, k) -/
theorem MapOf.delete (hK : KeyOk P K enc) (ht : P.underlying T = some (.map K E)) (h : MapOf w b enc l) (k : κ) (tk ty : TypeId) :
    ∃ w', (Builtin.delete_ #[T, tk] ty #[.map (some b), enc k]).run P w = .ok (.tuple #[]) w' ∧ MapOf w' b enc (mdel k l) ∧ Kp (· = b) w w' := by
  have hlt := h.lt
  obtain ⟨es, clock, hb, h1, h2, h3, h4⟩ := h
  have hg : (getObj b).run P w = .ok (.map es clock) w := by show (Sem.getObj b Sem.pure).run P w = _; simp [Sem.run, hb]
  have hf := hK.find k l es.toList w h1
  cases hx : findIx k l with
  | none =>
    rw [hx] at hf
    refine ⟨setMap w b (.map es clock), ?_, ⟨es, clock, setMap_at hlt, ?_, nodup_mdel k l h2, h3, h4⟩, setMap_kp _ _ _⟩
    · unfold Builtin.delete_
      simp [run_underlying ht, hg, hK.check, hf, run_setObj hb]
    · rw [mdel_of_none hx]; exact h1
  | some x =>
    obtain ⟨i, v0⟩ := x
    rw [hx] at hf
    have hlen : es.size = l.length := by have := congrArg List.length h1; simpa using this
    have hil : i < es.size := by
      obtain ⟨_, h6⟩ := mput_of_some (v := v0) hx
      rw [hlen]
      rcases Nat.lt_or_ge i l.length with h | h
      · exact h
      · rw [List.getElem?_eq_none h] at h6; cases h6
    have htl : (es.eraseIdxIfInBounds i).toList = es.toList.eraseIdx i := by
      simp [Array.eraseIdxIfInBounds, hil]
    refine ⟨setMap w b (.map (es.eraseIdxIfInBounds i) clock), ?_, ⟨_, _, setMap_at hlt, ?_, nodup_mdel k l h2, ?_, ?_⟩, setMap_kp _ _ _⟩
    · unfold Builtin.delete_
      simp [run_underlying ht, hg, hK.check, hf, run_setObj hb]
    · rw [mdel_of_some hx, htl, map_eraseIdx, map_eraseIdx, h1]
    · intro e he
      have : e ∈ es.toList.eraseIdx i := by rw [← htl]; exact Array.mem_toList_iff.2 he
      exact h3 e (Array.mem_toList_iff.1 (List.mem_of_mem_eraseIdx this))
    · rw [htl, map_eraseIdx]
      exact h4.sublist (List.eraseIdx_sublist _ _)

/-- len(m) -/
theorem MapOf.len (h : MapOf w b enc l) : ∃ es clock, w.heap[b]? = some (.map es clock) ∧ es.size = l.length := by
  obtain ⟨es, clock, hb, h1, _⟩ := h
  exact ⟨es, clock, hb, by have := congrArg List.length h1; simpa using this⟩
end
end

section
open Go.RowKit Go.ChangeShapes Go.WideShapes Go.ChangeAt

/-- Block b is a map of just these entries, each read. -/
def MapRp {κ α : Type} [DecidableEq κ] (E : Rp α) (w : World) (S : Nat → Prop) (b : Nat) (enc : κ → Value) (l : List (κ × α)) : Prop :=
  ∃ lv : List (κ × Value), MapOf w b enc lv ∧ lv.map (·.1) = l.map (·.1) ∧ ∀ k a, mget k l = some a → ∃ cs, mget k lv = some (.agg cs.toArray) ∧ E.R w S cs a

section
variable {κ α β : Type} [DecidableEq κ]
theorem keys_mput (k : κ) (v : α) (u : β) : ∀ (l : List (κ × α)) (m : List (κ × β)), l.map (·.1) = m.map (·.1) → (mput k v l).map (·.1) = (mput k u m).map (·.1)
  | [], [], _ => rfl
  | [], _ :: _, h => by simp at h
  | _ :: _, [], h => by simp at h
  | (k1, v1) :: l, (k2, u2) :: m, h => by
    simp only [List.map_cons, List.cons.injEq] at h
    obtain ⟨rfl, h⟩ := h
    unfold mput
    split
    · simp [h]
    · simp [keys_mput k v u l m h]
theorem keys_mdel (k : κ) : ∀ (l : List (κ × α)) (m : List (κ × β)), l.map (·.1) = m.map (·.1) → (mdel k l).map (·.1) = (mdel k m).map (·.1)
  | [], [], _ => rfl
  | [], _ :: _, h => by simp at h
  | _ :: _, [], h => by simp at h
  | (k1, v1) :: l, (k2, u2) :: m, h => by
    simp only [List.map_cons, List.cons.injEq] at h
    obtain ⟨rfl, h⟩ := h
    unfold mdel
    split
    · exact h
    · simp [keys_mdel k l m h]
end

namespace MapRp
variable {κ α : Type} [DecidableEq κ] {E : Rp α} {w w' : World} {S T : Nat → Prop} {b : Nat} {enc : κ → Value} {l : List (κ × α)}
theorem lt (h : MapRp E w S b enc l) : b < w.heap.size := by
  obtain ⟨lv, h, _⟩ := h
  exact h.lt
theorem nodup (h : MapRp E w S b enc l) : (l.map (·.1)).Nodup := by
  obtain ⟨lv, ⟨_, _, _, _, h, _⟩, hk, _⟩ := h
  rw [← hk]; exact h
theorem block (h : MapRp E w S b enc l) : ∃ es clock, w.heap[b]? = some (.map es clock) := by
  obtain ⟨lv, ⟨es, clock, h, _⟩, _⟩ := h
  exact ⟨es, clock, h⟩
theorem kept (h : MapRp E w S b enc l) (hk : Kp T w w') (hb : ¬ T b) (hs : ∀ k, S k → k < w.heap.size → ¬ T k) : MapRp E w' S b enc l := by
  obtain ⟨lv, h1, h2, h3⟩ := h
  refine ⟨lv, h1.kept hk hb, h2, fun k a ha => ?_⟩
  obtain ⟨cs, h4, h5⟩ := h3 k a ha
  exact ⟨cs, h4, E.kept h5 hk hs⟩
theorem keptNo (h : MapRp E w S b enc l) (hk : Kp No w w') : MapRp E w' S b enc l := h.kept hk (fun x => x) (fun _ _ _ x => x)
theorem more (h : MapRp E w S b enc l) (hs : ∀ k, S k → T k) : MapRp E w T b enc l := by
  obtain ⟨lv, h1, h2, h3⟩ := h
  refine ⟨lv, h1, h2, fun k a ha => ?_⟩
  obtain ⟨cs, h4, h5⟩ := h3 k a ha
  exact ⟨cs, h4, E.more h5 hs⟩
theorem made (w : World) (S : Nat → Prop) : MapRp E (w.alloc (.map #[] 0)) S w.heap.size enc ([] : List (κ × α)) :=
  ⟨[], MapOf.made w, rfl, fun _ _ h => by cases h⟩

section
variable {P : Program} {T : TypeId} {K V : TypeId}
/-- v, ok := m[k], what is there -/
theorem some_ok (h : MapRp E w S b enc l) (hK : KeyOk P K enc) (ht : P.underlying T = some (.map K V)) {k : κ} {a : α} (hg : mget k l = some a) {z : Value} (hz : (zeroValue V).run P w = .ok z w) :
    ∃ cs, E.R w S cs a ∧ (Instr.lookup T (.map (some b)) (enc k) true).run P w = .ok (.tuple #[.agg cs.toArray, .bool true]) w ∧ (Instr.lookup T (.map (some b)) (enc k) false).run P w = .ok (.agg cs.toArray) w := by
  obtain ⟨lv, h1, h2, h3⟩ := h
  obtain ⟨cs, h4, h5⟩ := h3 k a hg
  refine ⟨cs, h5, ?_, ?_⟩
  · have := h1.look_ok hK ht k hz
    rw [h4] at this
    exact this
  · have := h1.look hK ht k hz
    rw [h4] at this
    exact this
/-- v, ok := m[k], what isn't there -/
theorem none_ok (h : MapRp E w S b enc l) (hK : KeyOk P K enc) (ht : P.underlying T = some (.map K V)) {k : κ} (hg : mget k l = none) {z : Value} (hz : (zeroValue V).run P w = .ok z w) :
    (Instr.lookup T (.map (some b)) (enc k) true).run P w = .ok (.tuple #[z, .bool false]) w ∧ (Instr.lookup T (.map (some b)) (enc k) false).run P w = .ok z w := by
  obtain ⟨lv, h1, h2, h3⟩ := h
  have h4 : mget k lv = none := by rw [mget_none_iff, h2, ← mget_none_iff]; exact hg
  refine ⟨?_, ?_⟩
  · have := h1.look_ok hK ht k hz
    rw [h4] at this
    exact this
  · have := h1.look hK ht k hz
    rw [h4] at this
    exact this
/-- v, ok := m[k], in whatever world that leaves the map alone -/
theorem look_all (h : MapRp E w S b enc l) (hK : KeyOk P K enc) (ht : P.underlying T = some (.map K V)) (k : κ) {z : Value} (hz : ∀ w, (zeroValue V).run P w = .ok z w) :
    ∃ u B, (∀ w', Kp No w w' → (Instr.lookup T (.map (some b)) (enc k) true).run P w' = .ok (.tuple #[u, .bool B]) w') ∧ ((B = true ∧ ∃ a cs, mget k l = some a ∧ u = .agg cs.toArray ∧ E.R w S cs a) ∨ (B = false ∧ mget k l = none ∧ u = z)) := by
  obtain ⟨lv, h1, h2, h3⟩ := h
  cases hg : mget k l with
  | none =>
    have h4 : mget k lv = none := by rw [mget_none_iff, h2, ← mget_none_iff]; exact hg
    refine ⟨z, false, fun w' hk => ?_, .inr ⟨rfl, rfl, rfl⟩⟩
    have := (h1.kept hk (fun x => x)).look_ok hK ht k (hz w')
    rw [h4] at this
    exact this
  | some a =>
    obtain ⟨cs, h4, h5⟩ := h3 k a hg
    refine ⟨_, true, fun w' hk => ?_, .inl ⟨rfl, a, cs, rfl, rfl, h5⟩⟩
    have := (h1.kept hk (fun x => x)).look_ok hK ht k (hz w')
    rw [h4] at this
    exact this
/-- m[k] = v -/
theorem update (h : MapRp E w S b enc l) (hK : KeyOk P K enc) (ht : P.underlying T = some (.map K V)) (hb : ¬ S b) (k : κ) {cs : List Value} {a : α} (hr : E.R w S cs a) :
    ∃ w', (Instr.mapUpdate T (.map (some b)) (enc k) (.agg cs.toArray)).run P w = .ok () w' ∧ MapRp E w' S b enc (mput k a l) ∧ Kp (· = b) w w' := by
  obtain ⟨lv, h1, h2, h3⟩ := h
  obtain ⟨w', hrun, hm, hk⟩ := h1.update hK ht k (.agg cs.toArray)
  refine ⟨w', hrun, ⟨_, hm, keys_mput k _ _ _ _ h2, fun k2 a2 ha => ?_⟩, hk⟩
  rw [mget_put] at ha ⊢
  by_cases hkk : k2 = k
  · rw [if_pos hkk] at ha ⊢
    injection ha with ha
    subst ha
    exact ⟨cs, rfl, E.kept hr hk (fun i hi _ e => hb (e ▸ hi))⟩
  · rw [if_neg hkk] at ha ⊢
    obtain ⟨cs2, h4, h5⟩ := h3 k2 a2 ha
    exact ⟨cs2, h4, E.kept h5 hk (fun i hi _ e => hb (e ▸ hi))⟩
/-- delete(m, k) -/
theorem delete (h : MapRp E w S b enc l) (hK : KeyOk P K enc) (ht : P.underlying T = some (.map K V)) (hb : ¬ S b) (k : κ) (tk ty : TypeId) :
    ∃ w', (Builtin.delete_ #[T, tk] ty #[.map (some b), enc k]).run P w = .ok (.tuple #[]) w' ∧ MapRp E w' S b enc (mdel k l) ∧ Kp (· = b) w w' := by
  have hnd := h.nodup
  obtain ⟨lv, h1, h2, h3⟩ := h
  obtain ⟨w', hrun, hm, hk⟩ := h1.delete hK ht k tk ty
  refine ⟨w', hrun, ⟨_, hm, keys_mdel k _ _ h2, fun k2 a2 ha => ?_⟩, hk⟩
  rw [mget_del k k2 l hnd] at ha
  rw [mget_del k k2 lv (by rw [h2]; exact hnd)]
  split at ha
  · cases ha
  · rename_i hne
    rw [if_neg hne]
    obtain ⟨cs2, h4, h5⟩ := h3 k2 a2 ha
    exact ⟨cs2, h4, E.kept h5 hk (fun i hi _ e => hb (e ▸ hi))⟩
end
end MapRp
end

section
open Go.RowKit Go.ChangeShapes Go.WideShapes Go.ChangeAt

abbrev W := BitVec 32
/-- A word's number. -/
def un (x : W) : Int := (x.toNat : Int)
/-- A word's value. -/
def uv (x : W) : Value := .int .u32 (un x)
theorem un_nat (x : W) : un x = (x.toNat : Int) := rfl
theorem un_lt (x : W) : x.toNat < 4294967296 := x.isLt
theorem un_lo (x : W) : 0 ≤ un x := by unfold un; omega
theorem un_hi (x : W) : un x < 4294967296 := by have := un_lt x; unfold un; omega
theorem un_wrap (x : W) : IntKind.u32.wrap (un x) = un x := by
  have := un_lo x; have := un_hi x
  simp [IntKind.wrap, IntKind.signed, IntKind.bits]; omega
theorem un_add (x y : W) : IntKind.u32.wrap (un x + un y) = un (x + y) := by
  have h1 := un_lt x; have h2 := un_lt y
  rw [un_nat (x + y), BitVec.toNat_add]
  simp [IntKind.wrap, IntKind.signed, IntKind.bits, un]
theorem un_xor (x y : W) : bits .xor .u32 (un x) (un y) = un (x ^^^ y) := by
  rw [un_nat, un_nat, un_nat, BitVec.toNat_xor]; exact u32_xor_nat _ _ (un_lt x) (un_lt y)
theorem un_and (x y : W) : bits .and .u32 (un x) (un y) = un (x &&& y) := by
  rw [un_nat, un_nat, un_nat, BitVec.toNat_and]; exact u32_and_nat _ _ (un_lt x) (un_lt y)
theorem un_or (x y : W) : bits .or .u32 (un x) (un y) = un (x ||| y) := by
  rw [un_nat, un_nat, un_nat, BitVec.toNat_or]; exact u32_or_nat _ _ (un_lt x) (un_lt y)
theorem un_shr (x : W) (k : Nat) : un x / (2 ^ k : Nat) = un (x >>> k) := by
  rw [un_nat, un_nat, BitVec.toNat_ushiftRight, Nat.shiftRight_eq_div_pow]; exact (Int.natCast_ediv _ _).symm
theorem un_shl (x : W) (k : Nat) : IntKind.u32.wrap (un x * (2 ^ k : Nat)) = un (x <<< k) := by
  rw [un_nat (x <<< k), BitVec.toNat_shiftLeft, Nat.shiftLeft_eq]
  simp [IntKind.wrap, IntKind.signed, IntKind.bits, un]
theorem un_lit (n : Nat) (h : n < 4294967296) : un (BitVec.ofNat 32 n) = (n : Int) := by
  rw [un_nat, BitVec.toNat_ofNat, Nat.mod_eq_of_lt h]
/-- A word turned to the right. -/
def rotr (x : W) (r : Nat) : W := (x >>> r) ||| (x <<< (32 - r))

/-- A block of values. -/
def Blk (w : World) (g : Nat) (e : TypeId) (vs : List Value) : Prop := w.heap[g]? = some (.cells vs.toArray e (0, 0))
namespace Blk
variable {w w' : World} {g : Nat} {e : TypeId} {vs : List Value}
theorem lt (h : Blk w g e vs) : g < w.heap.size := by
  rcases Nat.lt_or_ge g w.heap.size with hlt | hge
  · exact hlt
  · have := h; unfold Blk at this; rw [Array.getElem?_eq_none hge] at this; cases this
theorem cell (h : Blk w g e vs) {i : Nat} {u : Value} (hi : vs[i]? = some u) : w.cell? ⟨g, i, none⟩ = some u := by
  have h' : w.heap[g]? = some (.cells vs.toArray e (0, 0)) := h
  simp [World.cell?, h', hi]
theorem fr (h : Blk w g e vs) (i : Nat) : w.frozen? ⟨g, i, none⟩ = false := by
  have h' : w.heap[g]? = some (.cells vs.toArray e (0, 0)) := h
  simp [World.frozen?, h']
theorem kept {S : Nat → Prop} (h : Blk w g e vs) (hk : Kp S w w') (hs : ¬ S g) : Blk w' g e vs := (hk.block g h.lt hs).trans h
theorem drew (h : Blk w g e vs) : Blk w.drew g e vs := h
theorem set (h : Blk w g e vs) (i : Nat) (u : Value) : Blk (w.setCell ⟨g, i, none⟩ u) g e (vs.set i u) := by
  have h' : w.heap[g]? = some (.cells vs.toArray e (0, 0)) := h
  unfold Blk
  simp [World.setCell, Array.getElem?_modify, h']
theorem new (w : World) (vs : List Value) (e : TypeId) : Blk (w.alloc (.cells vs.toArray e)) w.heap.size e vs := heap_alloc_new w _
end Blk
end

section

/-- Chunks of 64 bytes, the last one shorter. -/
def cutsL (l : List UInt8) : List (List UInt8) := if _h : l = [] then [] else l.take 64 :: cutsL (l.drop 64)
termination_by l.length
decreasing_by rw [List.length_drop]; have := List.length_pos_iff.2 _h; omega
theorem cutsL_nil : cutsL [] = [] := by rw [cutsL]; simp
theorem cutsL_cons {l : List UInt8} (h : l ≠ []) : cutsL l = l.take 64 :: cutsL (l.drop 64) := by rw [cutsL]; simp [h]
theorem cutsL_short {l : List UInt8} (h : l ≠ []) (h2 : l.length ≤ 64) : cutsL l = [l] := by
  rw [cutsL_cons h, List.take_of_length_le h2, List.drop_eq_nil_of_le h2, cutsL_nil]
theorem cutsL_head {a b : List UInt8} (h : a.length = 64) : cutsL (a ++ b) = a :: cutsL b := by
  rw [cutsL_cons (by intro e; rw [List.append_eq_nil_iff] at e; rw [e.1] at h; cases h), List.take_append_of_le_length (by omega), List.take_of_length_le (by omega), List.drop_append_of_le_length (by omega), List.drop_eq_nil_of_le (by omega), List.nil_append]
theorem cutsL_ind {P : List UInt8 → Prop} (h0 : P []) (h1 : ∀ l, l ≠ [] → l.length ≤ 64 → P l) (h2 : ∀ a b, a.length = 64 → b ≠ [] → P b → P (a ++ b)) : ∀ l, P l := by
  have : ∀ n, ∀ l : List UInt8, l.length ≤ n → P l := by
    intro n
    induction n with
    | zero => intro l hl; obtain rfl : l = [] := List.eq_nil_of_length_eq_zero (by omega); exact h0
    | succ n ih =>
      intro l hl
      by_cases hs : l.length ≤ 64
      · by_cases hn : l = []
        · subst hn; exact h0
        · exact h1 l hn hs
      · have := h2 (l.take 64) (l.drop 64) (by rw [List.length_take]; omega) (by intro e; have := congrArg List.length e; rw [List.length_drop] at this; simp at this; omega) (ih _ (by rw [List.length_drop]; omega))
        rwa [List.take_append_drop] at this
  exact fun l => this l.length l (Nat.le_refl _)
theorem cutsL_length (l : List UInt8) : (cutsL l).length = (l.length + 63) / 64 := by
  induction l using cutsL_ind with
  | h0 => simp [cutsL_nil]
  | h1 l h h2 => have := List.length_pos_iff.2 h; rw [cutsL_short h h2]; simp; omega
  | h2 a b ha hb ih => rw [cutsL_head ha, List.length_cons, ih, List.length_append, ha]; omega
theorem cutsL_join (l : List UInt8) : (cutsL l).flatten = l := by
  induction l using cutsL_ind with
  | h0 => simp [cutsL_nil]
  | h1 l h h2 => rw [cutsL_short h h2]; simp
  | h2 a b ha hb ih => rw [cutsL_head ha, List.flatten_cons, ih]
/-- One byte more: where the last chunk is whole, a chunk more. -/
theorem cutsL_push_new (l : List UInt8) (x : UInt8) (h : l.length % 64 = 0) : cutsL (l ++ [x]) = cutsL l ++ [[x]] := by
  induction l using cutsL_ind with
  | h0 => rw [List.nil_append, cutsL_short (by simp) (by simp), cutsL_nil]; rfl
  | h1 l hn h2 => have := List.length_pos_iff.2 hn; rw [cutsL_head (by omega), cutsL_short (by simp) (by simp), cutsL_short hn h2]; rfl
  | h2 a b ha hb ih => rw [List.append_assoc, cutsL_head ha, ih (by rw [List.length_append, ha] at h; omega), cutsL_head ha, List.cons_append]
/-- else the last one has one byte more. -/
theorem cutsL_push (l : List UInt8) (x : UInt8) (h : l.length % 64 ≠ 0) : ∃ z, (cutsL l)[l.length / 64]? = some z ∧ cutsL (l ++ [x]) = (cutsL l).set (l.length / 64) (z ++ [x]) := by
  induction l using cutsL_ind with
  | h0 => simp at h
  | h1 l hn h2 =>
    have hlt : l.length < 64 := by omega
    refine ⟨l, ?_, ?_⟩
    · rw [cutsL_short hn h2, show l.length / 64 = 0 by omega]; rfl
    · rw [cutsL_short (by simp) (by simp; omega), cutsL_short hn h2, show l.length / 64 = 0 by omega]; rfl
  | h2 a b ha hb ih =>
    have hlen : (a ++ b).length / 64 = b.length / 64 + 1 := by rw [List.length_append, ha]; omega
    obtain ⟨z, h3, h4⟩ := ih (by rw [List.length_append, ha] at h; omega)
    refine ⟨z, ?_, ?_⟩
    · rw [cutsL_head ha, hlen, List.getElem?_cons_succ, h3]
    · rw [List.append_assoc, cutsL_head ha, h4, cutsL_head ha, hlen, List.set_cons_succ]

/-- Are these chunks? -/
def fitsL (l : List (List UInt8)) : Bool := decide (∀ i, i < l.length → 1 ≤ (l.getD i []).length ∧ (l.getD i []).length ≤ 64 ∧ (i + 1 < l.length → (l.getD i []).length = 64))
theorem fitsL_nil : fitsL [] = true := by simp [fitsL]
theorem fitsL_iff (l : List (List UInt8)) : fitsL l = true ↔ ∀ i, i < l.length → 1 ≤ (l.getD i []).length ∧ (l.getD i []).length ≤ 64 ∧ (i + 1 < l.length → (l.getD i []).length = 64) := by simp [fitsL]
theorem fitsL_one (x : List UInt8) : fitsL [x] = true ↔ 1 ≤ x.length ∧ x.length ≤ 64 := by
  rw [fitsL_iff]
  constructor
  · intro h; have := h 0 (by simp); simpa using this
  · intro h i hi
    obtain rfl : i = 0 := by simp at hi; omega
    simpa using h
theorem fitsL_cons (x y : List UInt8) (r : List (List UInt8)) : fitsL (x :: y :: r) = true ↔ x.length = 64 ∧ fitsL (y :: r) = true := by
  rw [fitsL_iff, fitsL_iff]
  constructor
  · intro h
    refine ⟨(h 0 (by simp)).2.2 (by simp), fun i hi => ?_⟩
    have := h (i + 1) (by simp at hi ⊢; omega)
    simp only [List.getD_cons_succ, List.length_cons] at this ⊢
    exact ⟨this.1, this.2.1, fun hlt => this.2.2 (by omega)⟩
  · rintro ⟨h0, h⟩ i hi
    cases i with
    | zero => simp [h0]
    | succ i =>
      have := h i (by simp at hi ⊢; omega)
      simp only [List.getD_cons_succ, List.length_cons] at this ⊢
      exact ⟨this.1, this.2.1, fun hlt => this.2.2 (by omega)⟩
theorem fitsL_cuts (l : List UInt8) : fitsL (cutsL l) = true := by
  induction l using cutsL_ind with
  | h0 => rw [cutsL_nil, fitsL_nil]
  | h1 l h h2 => rw [cutsL_short h h2, fitsL_one]; exact ⟨List.length_pos_iff.2 h, h2⟩
  | h2 a b ha hb ih =>
    rw [cutsL_head ha]
    cases h : cutsL b with
    | nil => rw [fitsL_one]; omega
    | cons y r => rw [h] at ih; rw [fitsL_cons]; exact ⟨ha, ih⟩
theorem cutsL_of_fits (l : List (List UInt8)) (h : fitsL l = true) : cutsL l.flatten = l := by
  induction l with
  | nil => simp [cutsL_nil]
  | cons x r ih =>
    cases r with
    | nil =>
      rw [fitsL_one] at h
      simp only [List.flatten_cons, List.flatten_nil, List.append_nil]
      exact cutsL_short (by intro e; subst e; simp at h) h.2
    | cons y r =>
      rw [fitsL_cons] at h
      rw [List.flatten_cons, cutsL_head h.1, ih h.2]
/-- Parts fit just if they are the chunks of what they make together. -/
theorem fits_iff_cuts (l : List (List UInt8)) : fitsL l = decide (cutsL l.flatten = l) := by
  by_cases h : fitsL l = true
  · rw [h, decide_eq_true (cutsL_of_fits l h)]
  · have h2 : ¬ cutsL l.flatten = l := fun e => h (by rw [← e]; exact fitsL_cuts _)
    rw [decide_eq_false h2]; simpa using h
/-- Bytes that begin alike have the same first chunks. -/
theorem cutsL_heads (h a : List UInt8) : (cutsL (h ++ a)).take (h.length / 64) = (cutsL h).take (h.length / 64) := by
  induction h using cutsL_ind generalizing a with
  | h0 => simp
  | h1 l hn h2 =>
    by_cases h64 : l.length = 64
    · rw [cutsL_head h64, cutsL_short hn h2, h64]; simp
    · rw [show l.length / 64 = 0 by omega]; simp
  | h2 x b ha hb ih =>
    rw [List.append_assoc, cutsL_head ha, cutsL_head ha, List.length_append, ha, show (64 + b.length) / 64 = b.length / 64 + 1 by omega, List.take_succ_cons, List.take_succ_cons, ih]

/-- The same of texts. -/
def cutsB (s : ByteArray) : List ByteArray := (cutsL s.data.toList).map bs
def joinB (l : List ByteArray) : ByteArray := bs (l.map (·.data.toList)).flatten
def fitsB (l : List ByteArray) : Bool := fitsL (l.map (·.data.toList))
theorem map_bs (l : List (List UInt8)) : (l.map bs).map (·.data.toList) = l := by
  rw [List.map_map]
  conv => rhs; rw [← List.map_id l]
  exact List.map_congr_left fun a _ => bs_data a
theorem map_data (l : List ByteArray) : (l.map (·.data.toList)).map bs = l := by
  rw [List.map_map]
  conv => rhs; rw [← List.map_id l]
  exact List.map_congr_left fun a _ => bs_of a
theorem fitsB_cuts (s : ByteArray) : fitsB (cutsB s) = true := by unfold fitsB cutsB; rw [map_bs]; exact fitsL_cuts _
theorem joinB_cuts (s : ByteArray) : joinB (cutsB s) = s := by unfold joinB cutsB; rw [map_bs, cutsL_join]; exact bs_of s
theorem fitsB_iff (l : List ByteArray) : fitsB l = decide (cutsB (joinB l) = l) := by
  unfold fitsB cutsB joinB
  rw [fits_iff_cuts, bs_data]
  have : (cutsL (l.map (·.data.toList)).flatten = l.map (·.data.toList)) ↔ ((cutsL (l.map (·.data.toList)).flatten).map bs = l) := by
    constructor
    · intro h; rw [h, map_data]
    · intro h
      have := congrArg (List.map (·.data.toList)) h
      rwa [map_bs] at this
  exact decide_eq_decide.2 this
theorem cutsB_length (s : ByteArray) : (cutsB s).length = (s.size + 63) / 64 := by unfold cutsB; rw [List.length_map, cutsL_length, data_length]
theorem cutsB_heads (h a b : ByteArray) : (cutsB (h ++ a)).take (h.size / 64) = (cutsB (h ++ b)).take (h.size / 64) := by
  unfold cutsB
  rw [← List.map_take, ← List.map_take, ByteArray.data_append, ByteArray.data_append, Array.toList_append, Array.toList_append, ← data_length, cutsL_heads, cutsL_heads]
theorem cutsB_sizes (s x : ByteArray) (h : x ∈ cutsB s) : x.size ≤ 64 := by
  obtain ⟨l, hl, rfl⟩ := List.mem_map.1 h
  rw [bs_size]
  obtain ⟨i, hi, rfl⟩ := List.mem_iff_getElem.1 hl
  have := ((fitsL_iff _).1 (fitsL_cuts s.data.toList) i hi).2.1
  rwa [List.getD_eq_getElem?_getD, List.getElem?_eq_getElem hi, Option.getD_some] at this
end

section
open Go.RowKit Go.ChangeShapes Go.WideShapes Go.ChangeAt

theorem bytes_list_beq (a b : ByteArray) : (a.toList == b.toList) = decide (a = b) := by
  by_cases h : a = b
  · subst h; simp
  · simp only [h, decide_false, beq_eq_false_iff_ne]
    intro e
    rw [ByteArray.toList_eq, ByteArray.toList_eq] at e
    exact h (WideShapes.bytes_inj e)

def SaRel (l1 l2 : List ByteArray) (k : Nat) : Prop := l1.take k = l2.take k
theorem SaRel.step {l1 l2 : List ByteArray} {k : Nat} {x : ByteArray} (h : SaRel l1 l2 k) (h1 : l1[k]? = some x) (h2 : l2[k]? = some x) : SaRel l1 l2 (k + 1) := by
  obtain ⟨a, rfl⟩ := List.getElem?_eq_some_iff.1 h1
  obtain ⟨b, e⟩ := List.getElem?_eq_some_iff.1 h2
  unfold SaRel at *
  rw [List.take_succ_eq_append_getElem a, List.take_succ_eq_append_getElem b, h, e]
/-- redoubtref04.Same -/
theorem r_same (l1 l2 : List ByteArray) (A1 A2 : Option Addr) (c1 c2 : Nat) (w : World) (S1 S2 : Nat → Prop) (h1 : Rp.str.slice.R w S1 [.slice A1 l1.length c1] l1) (h2 : Rp.str.slice.R w S2 [.slice A2 l2.length c2] l2) :
    Calls Tryz.prog 55 #[.slice A1 l1.length c1, .slice A2 l2.length c2] w fun e w' => e = .returned (.bool (decide (l1 = l2))) ∧ ∃ n, w' = w.drewN n := by
  have hlen1 : l1.length ≤ maxLen := by obtain ⟨_, _, _, h1, h2, _⟩ := h1; omega
  have hlen2 : l2.length ≤ maxLen := by obtain ⟨_, _, _, h1, h2, _⟩ := h2; omega
  unfold maxLen at hlen1 hlen2
  by_cases hne : l1.length = l2.length
  · have hd : ((l1.length : Int) != (l2.length : Int)) = false := by simp [hne]
    have HNE := Lib.hid hne
    clear hne
    go_enter Tryz.func55, Tryz.ntmps55
    go_wp2
    go_loopw [5] (fun i wr => ∃ k n : Nat, k ≤ l1.length ∧ i = .int .i64 k ∧ wr = w.drewN n ∧ SaRel l1 l2 k) (fun i _ => l1.length - (intOf i).toNat)
    case atStart => exact ⟨0, 0, Nat.zero_le _, rfl, rfl, rfl⟩
    case round =>
      obtain ⟨k, n, hk, rfl, rfl, hr⟩ := hrel
      have HR := Lib.hid hr
      clear hr
      by_cases hlt : k < l1.length
      · obtain ⟨x, hx⟩ : ∃ x, l1[k]? = some x := ⟨_, List.getElem?_eq_getElem hlt⟩
        obtain ⟨y, hy⟩ : ∃ y, l2[k]? = some y := ⟨_, List.getElem?_eq_getElem (by rw [← HNE.out]; exact hlt)⟩
        obtain ⟨ad1, rfl, _, hv1, _⟩ := Rp.at_str h1 hx
        obtain ⟨ad2, rfl, _, hv2, _⟩ := Rp.at_str h2 hy
        have HX := Lib.hid hx
        have HY := Lib.hid hy
        have hlt2 : k < l2.length := by rw [← HNE.out]; exact hlt
        clear hx hy h1 h2
        by_cases hxy : x = y
        · subst hxy
          go_wp2
          refine Reg.wp_region_plan [⟨0, false, []⟩, ⟨1, false, []⟩, ⟨2, false, []⟩, ⟨3, false, []⟩, ⟨4, false, []⟩, ⟨5, false, []⟩, ⟨6, false, []⟩, ⟨7, false, []⟩, ⟨8, false, []⟩] rfl (by kernel_rfl) ?_
          repeat (first | (refine Reg.look rfl rfl rfl (by go_simp; rfl) rfl ?_; go_simp) | (refine Reg.skip rfl rfl rfl ?_; go_simp))
          (refine Reg.done ?_; simp only [Exit.then])
          go_wp2
          go_roundw
          case rel => exact ⟨k + 1, n + 1, by omega, by go_num, rfl, SaRel.step HR.out HX.out HY.out⟩
          case measure => simp [intOf]; omega
        · have hd : (x.toList == y.toList) = false := by rw [bytes_list_beq]; simp [hxy]
          have hq : decide (l1 = l2) = false := by
            simp only [decide_eq_false_iff_not]
            intro e
            have h3 := HX.out
            rw [e, HY.out] at h3
            injection h3 with h3
            exact hxy h3.symm
          have HQ := Lib.hid hq
          clear hq hxy
          go_wp2
          refine Reg.wp_region_plan [⟨0, false, []⟩, ⟨1, false, []⟩, ⟨2, false, []⟩, ⟨3, false, []⟩, ⟨4, false, []⟩, ⟨5, false, []⟩, ⟨6, false, []⟩, ⟨7, false, []⟩, ⟨8, false, []⟩] rfl (by kernel_rfl) ?_
          repeat (first | (refine Reg.look rfl rfl rfl (by go_simp; rfl) rfl ?_; go_simp) | (refine Reg.skip rfl rfl rfl ?_; go_simp))
          (refine Reg.done ?_; simp only [Exit.then])
          go_wp2
          go_ret
          exact ⟨congrArg (fun b => Ending.returned (Value.bool b)) HQ.out.symm, n + 1, rfl⟩
      · have hq : decide (l1 = l2) = true := by
          have h3 := HR.out
          obtain rfl : k = l1.length := by omega
          unfold SaRel at h3
          rw [List.take_length, HNE.out, List.take_length] at h3
          simp [h3]
        have HQ := Lib.hid hq
        clear hq
        go_wp2
        go_ret
        exact ⟨congrArg (fun b => Ending.returned (Value.bool b)) HQ.out.symm, n, rfl⟩
  · have hd : ((l1.length : Int) != (l2.length : Int)) = true := by simp; omega
    have hq : decide (l1 = l2) = false := by simp; intro e; exact hne (by rw [e])
    have HQ := Lib.hid hq
    clear hq
    go_enter Tryz.func55, Tryz.ntmps55
    go_wp2
    go_ret
    exact ⟨congrArg (fun b => Ending.returned (Value.bool b)) HQ.out.symm, 0, rfl⟩
end

section
open Go.RowKit Go.ChangeShapes Go.WideShapes Go.ChangeAt

theorem elem_str : Elem Tryz.prog 32 9 1 16 := Elem.of Tryz.underlying32 (z := .string ByteArray.empty) (by kernel_rfl) rfl (by decide)
def cnt (n : Int) : Int := if n ≤ 0 then 0 else (n - 1) / 64 + 1
theorem c_count (n : Int) (w : World) (h0 : -9223372036854775808 ≤ n) (h1 : n < 9223372036854775808) : Calls Tryz.prog 151 #[.int .i64 n] w fun e w' => e = .returned (.int .i64 (cnt n)) ∧ w = w' := by
  by_cases hn : n ≤ 0
  · rw [show cnt n = 0 from if_pos hn]
    go_enter Tryz.func151, Tryz.ntmps151
    go_wp2
    go_ret
    exact ⟨rfl, rfl⟩
  · rw [show cnt n = (n - 1) / 64 + 1 from if_neg hn]
    have e1 : IntKind.i64.wrap (n - 1) = n - 1 := by rw [IntKind.wrap_i64]; omega
    have e2 : IntKind.i64.wrap ((n - 1) / 64) = (n - 1) / 64 := by rw [IntKind.wrap_i64]; omega
    have e3 : IntKind.i64.wrap ((n - 1) / 64 + 1) = (n - 1) / 64 + 1 := by rw [IntKind.wrap_i64]; omega
    have e4 : (n - 1).tdiv 64 = (n - 1) / 64 := by rw [Int.tdiv_eq_ediv_of_nonneg (by omega)]
    go_enter Tryz.func151, Tryz.ntmps151
    go_wp2
    go_ret
    exact ⟨rfl, rfl⟩
theorem r_count (n : Int) (w : World) (h0 : -9223372036854775808 ≤ n) (h1 : n < 9223372036854775808) : Calls Tryz.prog 218 #[.int .i64 n] w fun e w' => e = .returned (.int .i64 (cnt n)) ∧ w = w' := by
  by_cases hn : n < 0
  · rw [show cnt n = 0 from if_pos (by omega)]
    go_enter Tryz.func218, Tryz.ntmps218
    go_wp2
    go_ret
    exact ⟨rfl, rfl⟩
  · have e4 : n.tdiv 64 = n / 64 := by rw [Int.tdiv_eq_ediv_of_nonneg (by omega)]
    have e2 : IntKind.i64.wrap (n / 64) = n / 64 := by rw [IntKind.wrap_i64]; omega
    have e1 : IntKind.i64.wrap (n / 64 * 64) = n / 64 * 64 := by rw [IntKind.wrap_i64]; omega
    have e3 : IntKind.i64.wrap (n / 64 + 1) = n / 64 + 1 := by rw [IntKind.wrap_i64]; omega
    by_cases hm : n / 64 * 64 < n
    · rw [show cnt n = n / 64 + 1 by unfold cnt; split <;> omega]
      go_enter Tryz.func218, Tryz.ntmps218
      go_wp2
      go_ret
      exact ⟨rfl, rfl⟩
    · rw [show cnt n = n / 64 by unfold cnt; split <;> omega]
      go_enter Tryz.func218, Tryz.ntmps218
      go_wp2
      go_ret
      exact ⟨rfl, rfl⟩

set_option maxHeartbeats 1000000 in
theorem c_cut (s : ByteArray) (w : World) (hs : s.size ≤ 1048576) : Calls Tryz.prog 92 #[.string s] w fun e w' =>
    ∃ A c, e = .returned (.slice A (cutsB s).length c) ∧ Own Rp.str w' No w.heap.size 9 (.slice A (cutsB s).length c) (cutsB s) ∧ Kp No w w' := by
  obtain ⟨n, hn⟩ : ∃ n, (s.size + 63) / 64 = n := ⟨_, rfl⟩
  have hcn : cnt (s.size : Int) = (n : Int) := by unfold cnt; split <;> omega
  have hnn : n ≤ 1048576 := by omega
  have HN := Lib.hid hn
  clear hn
  go_enter Tryz.func92, Tryz.ntmps92
  go_wp2_with fail
  refine (c_count _ _ (by omega) (by omega)).mono ?_
  rintro e w1 ⟨rfl, rfl⟩
  rw [hcn]
  clear hcn
  obtain ⟨w2, hrun, hown, hk⟩ := own_make Rp.str (P := Tryz.prog) w No w.heap.size 32 9 elem_str .i64 .i64 n (by omega) (by simp [maxLen]; omega) (Nat.le_refl _)
  have HO := Lib.hid hown
  have HK := Lib.hid hk
  clear hown hk hnn
  go_wp2_with fail
  clear hrun
  go_loopw [0, 3] (fun dv ov wr => ∃ (D : List ByteArray) (rest : List UInt8), dv = .string (bs rest) ∧ cutsB s = D ++ (cutsL rest).map bs ∧ rest.length ≤ s.size ∧ D.length + rest.length ≤ 1048576 ∧ Own Rp.str wr No w.heap.size 9 ov D ∧ Kp No w wr) (fun dv _ _ => vsize dv)
  case atStart => exact ⟨[], s.data.toList, by rw [bs_of], rfl, Nat.le_refl _, by simpa using hs, HO.out, HK.out⟩
  case round =>
    obtain ⟨D, rest, rfl, hcut, hrs, hDl, hown, hkp⟩ := hrel
    obtain ⟨Av, cv, rfl⟩ := hown.shape
    have HCUT := Lib.hid hcut
    have HO := Lib.hid hown
    have HK := Lib.hid hkp
    clear hcut hown hkp
    obtain ⟨r, hr⟩ : ∃ r, bs rest = r := ⟨_, rfl⟩
    have hrl : r.size = rest.length := by rw [← hr, bs_size]
    rw [hr]
    have HR := Lib.hid hr
    clear hr
    have hrm : r.size ≤ 1048576 := by omega
    have HRL := Lib.hid hrl
    clear hrl
    by_cases hlt : 64 < r.size
    · have h64 : (64 : Int) ≤ (r.size : Int) := by omega
      go_wp2_with fail
      refine Reg.wp_region_plan [⟨0, false, []⟩, ⟨1, false, []⟩, ⟨2, false, []⟩, ⟨5, false, []⟩, ⟨6, false, []⟩, ⟨3, true, [6]⟩, ⟨4, true, [6]⟩, ⟨7, false, []⟩, ⟨8, false, []⟩] rfl (by kernel_rfl) ?_
      repeat (first | (refine Reg.look rfl rfl rfl (by go_simp; rfl) rfl ?_; go_simp) | (refine Reg.skip rfl rfl rfl ?_; go_simp))
      refine Reg.act rfl ?_
      go_wp2
      (refine ⟨?anew, ?_⟩; case anew => ((repeat (refine Reg.anew_cons rfl rfl (fun _ => by go_simp) ?_)); exact Reg.anew_nil))
      refine Reg.act rfl ?_
      refine wpList_append_rp (E := Rp.str) rfl _ (.tmp 11) (.tmp 14) 32 rfl w.heap.size 9 16 elem_str (fun k => wr.heap.size ≤ k) (.slice Av D.length cv) D rfl ?d0 (some ⟨wr.heap.size, 0, none⟩) 1 (fun k => wr.heap.size ≤ k) [r.extract 0 64] rfl (Rp.of_block1 (E := Rp.str) rfl Value.string (heap_alloc_new wr _) (Nat.le_refl _) rfl (by simp) (by simp [maxLen]) (by intro a ha; simp only [List.mem_cons, List.not_mem_nil, or_false] at ha; subst ha; exact ⟨rfl, by simp [maxLen]; omega⟩)) Rp.str_one ?d1 ?d2 ?d3 ?d4 ?d5 ?_
      case d0 => exact ((HO.out.alloc _).drew).str_any _
      case d1 => simp [maxLen]; omega
      case d2 => simp; omega
      case d3 => simp; have := HK.out.size; omega
      case d4 => exact fun _ h => h
      case d5 => intro k' hk' hle; have := (HO.out.lt k' hk').2; omega
      intro r3 w3 hown hgr hat
      obtain ⟨Ar, cr, rfl⟩ := hown.shape
      have hkr : Kp (fun k => (Value.slice Av D.length cv).ownBlock = some k) wr w3 := (((Kp.refl _ _).alloc _).drew).grown hgr (fun g hg _ => hg)
      have HOWN := Lib.hid hown
      have HKR := Lib.hid (HK.out.trans hkr (fun i hi hv => absurd (HO.out.lt i hv).1 (by omega)))
      clear hown hgr hat hkr
      go_wp2
      (refine ⟨?anew, ?_⟩; case anew => ((repeat (refine Reg.anew_cons rfl rfl (fun _ => by go_simp) ?_)); exact Reg.anew_nil))
      repeat (first | (refine Reg.look rfl rfl rfl (by go_simp; rfl) rfl ?_; go_simp) | (refine Reg.skip rfl rfl rfl ?_; go_simp))
      (refine Reg.done ?_; simp only [Exit.then])
      go_wp2
      go_roundw
      case rel =>
        have hrl := HRL.out
        have h1 : r.extract 0 64 = bs (rest.take 64) := by rw [← HR.out, bs_extract]; simp
        have h2 : r.extract 64 r.size = bs (rest.drop 64) := by rw [← HR.out, bs_extract, bs_size, List.take_of_length_le (by rw [List.length_drop]; omega)]
        refine ⟨D ++ [r.extract 0 64], rest.drop 64, by rw [← h2], ?_, by rw [List.length_drop]; omega, by rw [List.length_append, List.length_drop]; simp; omega, ?_, HKR.out⟩
        · rw [HCUT.out, cutsL_cons (by intro e; rw [e, List.length_nil] at hrl; omega), List.map_cons, h1, List.append_assoc]; rfl
        · have h := HOWN.out.str_any No; rw [show (D ++ [r.extract 0 64]).length = D.length + 1 by simp] at h; exact h
      case measure => simp [vsize]; omega
    · have hrl := HRL.out
      by_cases hr0 : rest = []
      · subst hr0
        have hemp : r.toList.isEmpty = true := by rw [toList_isEmpty, hrl]; rfl
        have hc : cutsB s = D := by rw [HCUT.out, cutsL_nil]; simp
        have HC := Lib.hid hc
        clear hc hrl
        go_wp2_with fail
        go_ret
        rw [HC.out]
        exact ⟨Av, cv, rfl, HO.out, HK.out⟩
      · have hrp := List.length_pos_iff.2 hr0
        have hemp : r.toList.isEmpty = false := by rw [toList_isEmpty, hrl]; simp; omega
        have hc : cutsB s = D ++ [r] := by rw [HCUT.out, cutsL_short hr0 (by omega), ← HR.out]; rfl
        have HC := Lib.hid hc
        clear hc hrl
        go_wp2_with (at_builtin; refine wpList_append_rp (E := Rp.str) rfl _ (.tmp 20) (.tmp 22) 32 rfl w.heap.size 9 16 elem_str (fun k => wr.heap.size ≤ k) (.slice Av D.length cv) D rfl ?d0 (some ⟨wr.heap.size, 0, none⟩) 1 (fun k => wr.heap.size ≤ k) [r] rfl (Rp.of_block1 (E := Rp.str) rfl Value.string (heap_alloc_new wr _) (Nat.le_refl _) rfl (by simp) (by simp [maxLen]) (by intro a ha; simp only [List.mem_cons, List.not_mem_nil, or_false] at ha; subst ha; exact ⟨rfl, by simp [maxLen]; omega⟩)) Rp.str_one ?d1 ?d2 ?d3 ?d4 ?d5 ?_)
        case d0 => exact (HO.out.alloc _).str_any _
        case d1 => simp [maxLen]; omega
        case d2 => simp; omega
        case d3 => simp; have := HK.out.size; omega
        case d4 => exact fun _ h => h
        case d5 => intro k' hk' hle; have := (HO.out.lt k' hk').2; omega
        intro r3 w3 hown hgr hat
        obtain ⟨Ar, cr, rfl⟩ := hown.shape
        have hkr : Kp (fun k => (Value.slice Av D.length cv).ownBlock = some k) wr w3 := (((Kp.refl _ _).alloc _)).grown hgr (fun g hg _ => hg)
        have HOWN := Lib.hid (hown.str_any No)
        have HKR := Lib.hid (HK.out.trans hkr (fun i hi hv => absurd (HO.out.lt i hv).1 (by omega)))
        clear hown hgr hat hkr
        go_wp2_with fail
        go_ret
        rw [HC.out]
        exact ⟨Ar, cr, rfl, HOWN.out, HKR.out⟩

/-- The reference's cutting: byte by byte. -/
theorem cutsB_push (s : ByteArray) (i : Nat) (hi : i < s.size) :
    (i % 64 = 0 → cutsB (s.extract 0 (i + 1)) = cutsB (s.extract 0 i) ++ [s.extract i (i + 1)]) ∧
    (i % 64 ≠ 0 → ∃ z, (cutsB (s.extract 0 i))[i / 64]? = some z ∧ cutsB (s.extract 0 (i + 1)) = (cutsB (s.extract 0 i)).set (i / 64) (z ++ s.extract i (i + 1))) := by
  obtain ⟨l, rfl⟩ : ∃ l, s = bs l := ⟨_, (bs_of s).symm⟩
  rw [bs_size] at hi
  have e1 : (bs l).extract 0 (i + 1) = bs (l.take i ++ [l[i]]) := by rw [bs_extract, List.drop_zero, Nat.sub_zero, List.take_succ_eq_append_getElem hi]
  have e2 : (bs l).extract 0 i = bs (l.take i) := by rw [bs_extract]; simp
  have e3 : (bs l).extract i (i + 1) = bs [l[i]] := by rw [bs_extract, show i + 1 - i = 1 by omega, List.drop_eq_getElem_cons hi]; rfl
  have e4 : (l.take i).length = i := by rw [List.length_take]; omega
  rw [e1, e2, e3]
  unfold cutsB
  rw [bs_data, bs_data]
  constructor
  · intro h
    rw [cutsL_push_new _ _ (by rw [e4]; exact h), List.map_append]; rfl
  · intro h
    obtain ⟨z, h1, h2⟩ := cutsL_push (l.take i) l[i] (by rw [e4]; exact h)
    rw [e4] at h1 h2
    refine ⟨bs z, by rw [List.getElem?_map, h1]; rfl, ?_⟩
    rw [h2, List.map_set, bs_append]
end
end Go.Proofs.YtamfgmlhopjppaaGreat
