/-
  model.lined: operations as lines.
-/
import Derived.Test.YtbncblnchcmgbaaModB
import Derived.Test.YtbncblnchcmgbaaMod1
import Derived.Test.YtbncblnchcmgbaaLitW
namespace Go.Proofs.Ytbncblnchcmgbaa
open Go.RowKit Go.ChangeShapes Go.WideShapes Go.ChangeAt

theorem run_make_lines (w : World) (n : Nat) (hn : n ≤ 1000000) : ∃ cs : Array Value, cs.size = n * 11 ∧ (Instr.makeSlice 115 (.int .i64 (n : Int)) (.int .i64 (n : Int))).run Try.prog w = .ok (.slice (some ⟨w.heap.size, 0, none⟩) n n) (w.alloc (.cells cs 118)) := by
  have el : Elem Try.prog 115 118 11 112 := Elem.of Try.underlying115 (z := .agg #[.int .i64 0, .int .i64 0, .int .i64 0, .int .i64 0, .int .i64 0, .int .i64 0, .string ByteArray.empty, .int .i64 0, .slice none 0 0, .int .i64 0, .int .i64 0]) (by kernel_rfl) rfl (by decide)
  obtain ⟨ht, i, z, hi, hz, hs, hbb, _, _⟩ := el
  have hr := run_make (P := Try.prog) w _ _ i z ht hi hz .i64 .i64 n n (by omega) (Int.le_refl _) (by rw [hbb]; omega) (by omega)
  simp only [Int.toNat_natCast] at hr
  exact ⟨_, by rw [size_madeCells, hs], hr⟩
theorem run_store_line (w : World) (g o : Nat) (a : LineL) (A : Option Addr) (n c : Nat) (u0 u1 u2 u3 u4 u5 u6 u7 u8 u9 u10 : Value) (h0 : w.cell? ⟨g, o, none⟩ = some u0) (h1 : w.cell? ⟨g, o + 1, none⟩ = some u1) (h2 : w.cell? ⟨g, o + 2, none⟩ = some u2) (h3 : w.cell? ⟨g, o + 3, none⟩ = some u3) (h4 : w.cell? ⟨g, o + 4, none⟩ = some u4)
    (h5 : w.cell? ⟨g, o + 5, none⟩ = some u5) (h6 : w.cell? ⟨g, o + 6, none⟩ = some u6) (h7 : w.cell? ⟨g, o + 7, none⟩ = some u7) (h8 : w.cell? ⟨g, o + 8, none⟩ = some u8) (h9 : w.cell? ⟨g, o + 9, none⟩ = some u9) (h10 : w.cell? ⟨g, o + 10, none⟩ = some u10) (hf : ∀ p, w.frozen? ⟨g, p, none⟩ = false) :
    (Instr.storeAt 118 (.pointer (some ⟨g, o, none⟩)) (lineV a (.slice A n c))).run Try.prog w = .ok () (wset w g o (a.cells (.slice A n c))) := by
  unfold lineV
  go_simp
  rfl
theorem run_load_op {w : World} {y : Nat} {o : OpL} {A : Option Addr} {n c : Nat} (h : Blk w y 38 [.int .i64 o.n, .int .i64 o.epoch, .int .i64 o.kind, .int .i64 o.site, .int .i64 o.client, .int .i64 o.seq, .string o.name, .int .i64 o.size, .slice A n c]) :
    (Instr.loadAt 38 (.pointer (some ⟨y, 0, none⟩))).run Try.prog w = .ok (opV o (.slice A n c)) w := by
  have y0 : w.cell? ⟨y, 0, none⟩ = some _ := Blk.cell h rfl
  have y1 : w.cell? ⟨y, 1, none⟩ = some _ := Blk.cell h rfl
  have y2 : w.cell? ⟨y, 2, none⟩ = some _ := Blk.cell h rfl
  have y3 : w.cell? ⟨y, 3, none⟩ = some _ := Blk.cell h rfl
  have y4 : w.cell? ⟨y, 4, none⟩ = some _ := Blk.cell h rfl
  have y5 : w.cell? ⟨y, 5, none⟩ = some _ := Blk.cell h rfl
  have y6 : w.cell? ⟨y, 6, none⟩ = some _ := Blk.cell h rfl
  have y7 : w.cell? ⟨y, 7, none⟩ = some _ := Blk.cell h rfl
  have y8 : w.cell? ⟨y, 8, none⟩ = some _ := Blk.cell h rfl
  clear h
  unfold opV
  go_simp
theorem run_load_spot {w : World} {y : Nat} {a b : Int} (h : Blk w y 54 [.int .i64 a, .int .i64 b]) : (Instr.loadAt 54 (.pointer (some ⟨y, 0, none⟩))).run Try.prog w = .ok (spotV (a, b)) w := by
  have y0 : w.cell? ⟨y, 0, none⟩ = some _ := Blk.cell h rfl
  have y1 : w.cell? ⟨y, 1, none⟩ = some _ := Blk.cell h rfl
  clear h
  unfold spotV
  go_simp
theorem run_line (w : World) (o : OpL) (hv : Value) (a b : Int) : (Instr.build 118 #[(0, opV o hv), (1, spotV (a, b))]).run Try.prog w = .ok (lineV ⟨o, a, b⟩ hv) w := by
  unfold opV spotV lineV
  go_simp
set_option maxRecDepth 100000 in
set_option maxHeartbeats 4000000 in
theorem m_lined (l : List OpL) (A : Option Addr) (c : Nat) (w : World) (S : Nat → Prop) (hl : Rp.opl.slice.R w S [.slice A l.length c] l) (hll : l.length ≤ 1000000) (hsm : ∀ o ∈ l, o.hashes.length ≤ 1000000) :
    Calls Try.prog 49 #[.slice A l.length c] w fun e w' => ∃ g, e = .returned (.slice (some ⟨g, 0, none⟩) l.length l.length) ∧ w.heap.size ≤ g ∧ LnAt w' (fun k => w.heap.size ≤ k ∧ k ≠ g) g l.length (linedL (0, 0) l) ∧ Kp No w w' := by
  have HL := Lib.hid hl
  have HSM := Lib.hid hsm
  obtain ⟨cs, hcs, hmk⟩ := run_make_lines w l.length hll
  obtain ⟨g, hg⟩ : ∃ v, w.heap.size = v := ⟨_, rfl⟩
  obtain ⟨wa, hwa⟩ : ∃ v, w.alloc (.cells cs 118) = v := ⟨_, rfl⟩
  have hka : Kp No w wa := by rw [← hwa]; exact (Kp.refl _ _).alloc _
  have HLA : Hid (∀ sp, wa.heap.size = sp → LnAt wa (fun k => w.heap.size ≤ k ∧ k ≠ g ∧ k ≠ sp) g l.length []) := Lib.hid (fun sp _ => by rw [← hwa, ← hg]; exact LnAt.made w _ _ _ hcs)
  have HKA := Lib.hid hka
  have HGW : Hid (w.heap.size ≤ g) := Lib.hid (Nat.le_of_eq hg)
  rw [hg, hwa] at hmk
  clear hl hsm hcs hwa hka
  go_enter Try.func49, Try.ntmps49
  go_wp2_with fail
  clear hmk hg
  obtain ⟨sp, hsp⟩ : ∃ v, wa.heap.size = v := ⟨_, rfl⟩
  obtain ⟨wb, hwb⟩ : ∃ v, wa.alloc (.cells #[.int .i64 0, .int .i64 0] 54) = v := ⟨_, rfl⟩
  have hkb : Kp No wa wb := by rw [← hwb]; exact (Kp.refl _ _).alloc _
  have hln := HLA.out sp hsp
  have HGS : Hid (g ≠ sp) := Lib.hid (by have := hln.lt; omega)
  have HLN : Hid (LnAt wb (fun k => w.heap.size ≤ k ∧ k ≠ g ∧ k ≠ sp) g l.length (linedL (0, 0) (l.take 0))) := Lib.hid (hln.keptNo hkb)
  have HBS : Hid (Blk wb sp 54 [.int .i64 (lastP (0, 0) (l.take 0)).1, .int .i64 (lastP (0, 0) (l.take 0)).2]) := Lib.hid (by rw [← hwb, ← hsp]; exact Blk.new wa _ _)
  have HKB : Hid (Kp No w wb) := Lib.hid (HKA.out.trans' hkb)
  have HSW : Hid (w.heap.size ≤ sp) := Lib.hid (by rw [← hsp]; exact HKA.out.size)
  rw [hwb, hsp]
  clear hkb hln hwb hsp HLA HKA
  go_loopw [13] (fun iv wr => ∃ i : Nat, i ≤ l.length ∧ iv = .int .i64 (i : Int) ∧ Hid (LnAt wr (fun k => w.heap.size ≤ k ∧ k ≠ g ∧ k ≠ sp) g l.length (linedL (0, 0) (l.take i))) ∧ Hid (Blk wr sp 54 [.int .i64 (lastP (0, 0) (l.take i)).1, .int .i64 (lastP (0, 0) (l.take i)).2]) ∧ Hid (Kp No w wr)) (fun iv _ => l.length - (intOf iv).toNat)
  case atStart => exact ⟨0, Nat.zero_le _, rfl, HLN, HBS, HKB⟩
  case round =>
    clear HLN HBS HKB
    obtain ⟨i, hi, rfl, HLN, HBS, HKR⟩ := hrel
    by_cases hlt : i < l.length
    · have hli : (i : Int) < (l.length : Int) := by omega
      obtain ⟨o, ho⟩ : ∃ o, l[i]? = some o := ⟨_, List.getElem?_eq_getElem hlt⟩
      have hst : l.take (i + 1) = l.take i ++ [o] := by
        obtain ⟨e1, e2⟩ := List.getElem?_eq_some_iff.1 ho
        rw [List.take_succ_eq_append_getElem e1, e2]
      have hln2 : linedL (0, 0) (l.take (i + 1)) = linedL (0, 0) (l.take i) ++ [⟨o, (lastP (0, 0) (l.take i)).1, (lastP (0, 0) (l.take i)).2⟩] := by rw [hst, linedL_snoc]
      have hlp2 : lastP (0, 0) (l.take (i + 1)) = (o.n, o.epoch) := by rw [hst, lastP_snoc]
      have hlen : (linedL (0, 0) (l.take i)).length = i := by rw [linedL_length, List.length_take]; omega
      have hos := HSM.out o (List.mem_of_getElem? ho)
      obtain ⟨D, hD⟩ : ∃ v, linedL (0, 0) (l.take i) = v := ⟨_, rfl⟩
      obtain ⟨p1, hp1⟩ : ∃ v, (lastP (0, 0) (l.take i)).1 = v := ⟨_, rfl⟩
      obtain ⟨p2, hp2⟩ : ∃ v, (lastP (0, 0) (l.take i)).2 = v := ⟨_, rfl⟩
      have HIP : Hid (I64 p1 ∧ I64 p2) := Lib.hid (by rw [← hp1, ← hp2]; exact lastP_I64 (fun o ho => opl_nums HL.out o (List.mem_of_mem_take ho)))
      rw [hD] at hln2 HLN hlen
      rw [hp1, hp2] at hln2 HBS
      obtain ⟨ad, A', c', rfl, _, hcell, hnum, hrd⟩ := Rp.at_opl (Rp.opl.slice.keptNo HL.out HKR.out) ho
      obtain ⟨z0, z1, z2, z3, z4, z5, z6, z7, z8⟩ := opl_cells hcell
      obtain ⟨y, hy⟩ : ∃ v, wr.heap.size = v := ⟨_, rfl⟩
      obtain ⟨w2, hw2⟩ : ∃ v, wr.alloc (.cells #[.int .i64 o.n, .int .i64 o.epoch, .int .i64 o.kind, .int .i64 o.site, .int .i64 o.client, .int .i64 o.seq, .string o.name, .int .i64 o.size, .slice A' o.hashes.length c'] 38) = v := ⟨_, rfl⟩
      have hk2 : Kp No wr w2 := by rw [← hw2]; exact (Kp.refl _ _).alloc _
      have hby : Blk w2 y 38 [.int .i64 o.n, .int .i64 o.epoch, .int .i64 o.kind, .int .i64 o.site, .int .i64 o.client, .int .i64 o.seq, .string o.name, .int .i64 o.size, .slice A' o.hashes.length c'] := by rw [← hw2, ← hy]; exact Blk.new wr _ _
      have hcl := c_cloneS o.hashes A' c' w2 S (Rp.str.slice.keptNo hrd hk2) hos
      have HCL := Lib.hid hcl
      have HBY := Lib.hid hby
      have HNUM := Lib.hid hnum
      have hyg : g < y ∧ sp < y ∧ w.heap.size ≤ y := by
        rw [← hy]
        exact ⟨HLN.out.lt, Blk.lt HBS.out, HKR.out.size⟩
      have HYG := Lib.hid hyg
      have HL2 : Hid (LnAt w2 (fun k => (w.heap.size ≤ k ∧ k ≠ g ∧ k ≠ sp) ∧ k < y) g l.length D) := Lib.hid (by rw [← hy]; exact HLN.out.bnd.keptNo hk2)
      have HS2 := Lib.hid (HBS.out.kept hk2 (fun z => z))
      have HK2 := Lib.hid (HKR.out.trans' hk2)
      have HLEN := Lib.hid hlen
      have HLN2 := Lib.hid hln2
      have HLP2 := Lib.hid hlp2
      have y8 : w2.cell? ⟨y, 8, none⟩ = some _ := Blk.cell hby rfl
      clear ho hst hln2 hlp2 hlen hcell hnum hrd hk2 hby hcl hyg hD hp1 hp2 HLN HBS HKR
      obtain ⟨on, oe, ok, os, oc, oq, onm, osz, ohs⟩ := o
      simp only at *
      obtain ⟨hn, hhn⟩ : ∃ k, ohs.length = k := ⟨_, rfl⟩
      have HHN := Lib.hid hhn
      rw [hhn] at HCL HBY y8 hw2 z8
      clear hhn
      go_wp2_with fail
      clear z0 z1 z2 z3 z4 z5 z6 z7 z8 hw2 hy
      refine HCL.out.mono ?_
      rintro e w3 ⟨A5, c5, rfl, hown5, hk3⟩
      have hb3 := HBY.out.kept hk3 (fun z => z)
      have y8 : w3.cell? ⟨y, 8, none⟩ = some _ := Blk.cell hb3 rfl
      have g8 := Blk.fr hb3 8
      obtain ⟨w4, hw4⟩ : ∃ v, w3.setCell ⟨y, 8, none⟩ (.slice A5 hn c5) = v := ⟨_, rfl⟩
      have hb4 : Blk w4 y 38 [.int .i64 on, .int .i64 oe, .int .i64 ok, .int .i64 os, .int .i64 oc, .int .i64 oq, .string onm, .int .i64 osz, .slice A5 hn c5] := by rw [← hw4]; exact Blk.set hb3 8 (.slice A5 hn c5)
      have hk4 : Kp (· = y) w3 w4 := by rw [← hw4]; exact (Kp.refl (· = y) w3).setCell (p := ⟨y, 8, none⟩) (fun _ => rfl) _
      have hyw3 : y < w3.heap.size := Blk.lt hb3
      have hr4 : Rp.str.slice.R w4 (fun k => w.heap.size ≤ k ∧ k ≠ g ∧ k ≠ sp) [.slice A5 ohs.length c5] ohs := by
        rw [HHN.out]
        have hyw2 := Blk.lt HBY.out
        have hkw := HK2.out.size
        have h := (hown5.str_any (fun k => w2.heap.size ≤ k)).read (fun k hk => (hown5.lt k hk).1)
        exact Rp.str.slice.more (Rp.str.slice.kept h hk4 (fun k hk _ e => by omega)) (fun k hk => ⟨by omega, by have := HYG.out; omega, by have := HYG.out; omega⟩)
      have hl4 : LnAt w4 (fun k => w.heap.size ≤ k ∧ k ≠ g ∧ k ≠ sp) g l.length D := by
        exact ((HL2.out.keptNo hk3).kept hk4 (by have := HYG.out; omega) (fun k hk _ e => by have := hk.2; omega)).more (fun k hk => hk.1)
      have hs4 : Blk w4 sp 54 [.int .i64 p1, .int .i64 p2] := (HS2.out.kept hk3 (fun z => z)).kept hk4 (by have := HYG.out; omega)
      have hld : (Instr.loadAt 38 (.pointer (some ⟨y, 0, none⟩))).run Try.prog w4 = .ok (opV ⟨on, oe, ok, os, oc, oq, onm, osz, ohs⟩ (.slice A5 hn c5)) w4 := run_load_op hb4
      have hls : (Instr.loadAt 54 (.pointer (some ⟨sp, 0, none⟩))).run Try.prog w4 = .ok (spotV (p1, p2)) w4 := run_load_spot hs4
      have hbu := run_line w4 ⟨on, oe, ok, os, oc, oq, onm, osz, ohs⟩ (.slice A5 hn c5) p1 p2
      have hcl : ∀ k, k < 11 → ∃ u, w4.cell? ⟨g, i * 11 + k, none⟩ = some u := fun k hk => hl4.cell (by omega)
      obtain ⟨u0, e0⟩ := hcl 0 (by omega)
      obtain ⟨u1, e1⟩ := hcl 1 (by omega)
      obtain ⟨u2, e2⟩ := hcl 2 (by omega)
      obtain ⟨u3, e3⟩ := hcl 3 (by omega)
      obtain ⟨u4, e4⟩ := hcl 4 (by omega)
      obtain ⟨u5, e5⟩ := hcl 5 (by omega)
      obtain ⟨u6, e6⟩ := hcl 6 (by omega)
      obtain ⟨u7, e7⟩ := hcl 7 (by omega)
      obtain ⟨u8, e8⟩ := hcl 8 (by omega)
      obtain ⟨u9, e9⟩ := hcl 9 (by omega)
      obtain ⟨u10, e10⟩ := hcl 10 (by omega)
      have hst := run_store_line w4 g (i * 11) ⟨⟨on, oe, ok, os, oc, oq, onm, osz, ohs⟩, p1, p2⟩ A5 hn c5 u0 u1 u2 u3 u4 u5 u6 u7 u8 u9 u10 e0 e1 e2 e3 e4 e5 e6 e7 e8 e9 e10 hl4.fr
      have hput := hl4.put (fun h => h.2.1 rfl) (by rw [HLEN.out]; exact hlt) ⟨⟨on, oe, ok, os, oc, oq, onm, osz, ohs⟩, p1, p2⟩ ⟨HNUM.out, HIP.out.1, HIP.out.2⟩ hr4 HLEN.out
      rw [HHN.out] at hput
      obtain ⟨w5, hw5⟩ : ∃ v, wset w4 g (i * 11) (LineL.cells ⟨⟨on, oe, ok, os, oc, oq, onm, osz, ohs⟩, p1, p2⟩ (.slice A5 hn c5)) = v := ⟨_, rfl⟩
      have hk5 : Kp (· = g) w4 w5 := by rw [← hw5]; exact wset_kp
      rw [hw5] at hst hput
      have hb5 := hb4.kept hk5 (by have := HYG.out; omega)
      have hs5 := hs4.kept hk5 (fun e => HGS.out e.symm)
      have HLD := Lib.hid hld
      have HLS := Lib.hid hls
      have HBU := Lib.hid hbu
      have HST := Lib.hid hst
      have HPUT := Lib.hid hput
      have HLD5 := Lib.hid (run_load_op (o := ⟨on, oe, ok, os, oc, oq, onm, osz, ohs⟩) hb5)
      have HPL := Lib.hid (m_place ⟨on, oe, ok, os, oc, oq, onm, osz, ohs⟩ (.slice A5 hn c5) w5)
      have HS5 := Lib.hid hs5
      have HK5 : Hid (Kp No w w5) := Lib.hid (((HK2.out.trans' hk3).trans hk4 (fun k hk e => by have := HYG.out; omega)).trans hk5 (fun k hk e => by have := HGW.out; omega))
      have hil : (i : Int) < (l.length : Int) := by omega
      clear hown5 hk3 hb3 hb4 hk4 hyw3 hr4 hl4 hs4 hld hls hbu hcl e0 e1 e2 e3 e4 e5 e6 e7 e8 e9 e10 hst hput hw5 hk5 hb5 hs5 HCL HBY HNUM HL2 HS2 HK2 HYG
      go_wp2_with (first | (refine wpl_load (by first | rfl | go_simp) 38 _ rfl _ _ (by go_simp) HLD.out ?_; go_simp) | (refine wpl_load (by first | rfl | go_simp) 54 _ rfl _ _ (by go_simp) HLS.out ?_; go_simp) | (refine wpl_build2 (by first | rfl | go_simp) 118 0 1 _ _ rfl _ _ _ (by go_simp) (by go_simp) HBU.out ?_; go_simp) | (refine wpl_store (by first | rfl | go_simp) 118 _ _ rfl _ _ (by go_simp) (by go_simp) HST.out ?_; go_simp) | (refine wpl_load (by first | rfl | go_simp) 38 _ rfl _ _ (by go_simp) HLD5.out ?_; go_simp))
      refine HPL.out.mono ?_
      rintro e w6 ⟨rfl, hk6⟩
      have hs6 := HS5.out.kept hk6 (fun z => z)
      have s0 : w6.cell? ⟨sp, 0, none⟩ = some _ := Blk.cell hs6 rfl
      have s1 : w6.cell? ⟨sp, 1, none⟩ = some _ := Blk.cell hs6 rfl
      have f0 := Blk.fr hs6 0
      have f1 := Blk.fr hs6 1
      have hb7 : Blk ((w6.setCell ⟨sp, 0, none⟩ (.int .i64 on)).setCell ⟨sp, 1, none⟩ (.int .i64 oe)) sp 54 [.int .i64 on, .int .i64 oe] := Blk.set (Blk.set hs6 0 (.int .i64 on)) 1 (.int .i64 oe)
      have hk7 : Kp (· = sp) w6 ((w6.setCell ⟨sp, 0, none⟩ (.int .i64 on)).setCell ⟨sp, 1, none⟩ (.int .i64 oe)) := ((Kp.refl (· = sp) w6).setCell (p := ⟨sp, 0, none⟩) (fun _ => rfl) _).setCell (p := ⟨sp, 1, none⟩) (fun _ => rfl) _
      have HB7 := Lib.hid hb7
      have HL7 := Lib.hid ((HPUT.out.keptNo hk6).kept hk7 HGS.out (fun k hk _ e => hk.2.2 e))
      have HK7 : Hid (Kp No w ((w6.setCell ⟨sp, 0, none⟩ (.int .i64 on)).setCell ⟨sp, 1, none⟩ (.int .i64 oe))) := Lib.hid ((HK5.out.trans' hk6).trans hk7 (fun k hk e => by have := HSW.out; omega))
      unfold spotV
      clear hk6 hs6 hb7 hk7
      go_wp2_with fail
      go_roundw
      case rel => exact ⟨i + 1, by omega, by go_num, by rw [HLN2.out]; exact HL7, by rw [HLP2.out]; exact HB7, HK7⟩
      case measure => simp [intOf]; omega
    · obtain rfl : i = l.length := by omega
      have HLN2 := Lib.hid HLN.out
      rw [List.take_length] at HLN2
      go_wp2_with fail
      go_ret
      exact ⟨g, rfl, HGW.out, HLN2.out.more (fun k hk => ⟨hk.1, hk.2.1⟩), HKR.out⟩
end Go.Proofs.Ytbncblnchcmgbaa
