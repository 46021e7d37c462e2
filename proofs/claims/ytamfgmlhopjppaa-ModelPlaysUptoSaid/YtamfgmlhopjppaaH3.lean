/-
  sheet.Make.
-/
import Derived.Test.YtamfgmlhopjppaaGO
import Derived.Test.YtamfgmlhopjppaaOwnB
import Derived.Laws.ResultCell
namespace Go.Proofs.Ytamfgmlhopjppaa
open Go.RowKit Go.ChangeShapes Go.WideShapes Go.ChangeAt

theorem results_ct {P : Program} {fn : Func} {p u : Tmp} {ty : TypeId} (h : fn.results = #[.cell p ty, .tmp u]) (tmps : Array Value) (w : World) (g : Nat) (t : TypeId) (cs : Array Value) (fr : Nat × Nat) (d : TypeDesc)
    (hp : tmps.getD p undef = .pointer (some ⟨g, 0, none⟩)) (hg : w.heap[g]? = some (.cells cs t fr)) (hu : P.underlying ty = some d) (hd : (match d with | .struct _ | .array _ _ => true | _ => false) = true) (hi : (P.info? ty).map (·.size) = some cs.size) :
    (results fn tmps).run P w = .ok (.tuple #[.agg cs, tmps.getD u undef]) w := by
  rw [results_cell_tmp h, hp]
  simp [asAddr, run_loadVar_row w g t ty cs fr d hg hu hd hi, Result.andThen]
/-- what Make answers -/
def MakeAns (w : World) (s : ByteArray) (e : Ending) (w' : World) : Prop :=
  ∃ A c, e = .returned (.tuple #[.agg #[.int .i64 (s.size : Int), .slice A (hashesB s).length c], .int .i64 0]) ∧ Own Rp.str w' No w.heap.size 9 (.slice A (hashesB s).length c) (hashesB s)

set_option maxRecDepth 100000 in
set_option maxHeartbeats 1000000 in
theorem c_make (s : ByteArray) (w : World) (hs : s.size ≤ 512) : Calls Try.prog 49 #[.string s] w fun e w' => MakeAns w s e w' ∧ Kp No w w' := by
  have hsi : ¬ (512 : Int) < (s.size : Int) := by omega
  go_enter Try.func49, Try.ntmps49
  go_wp2_with fail
  obtain ⟨w1, hw1⟩ : ∃ w1, (w.alloc (.cells #[.int .i64 0, .slice none 0 0] 56)).alloc (.cells #[.int .i64 (s.size : Int), .slice none 0 0] 56) = w1 := ⟨_, rfl⟩
  have HB2 : Hid (Blk w1 w.heap.size 56 [.int .i64 0, .slice none 0 0]) := Lib.hid (by rw [← hw1]; exact (Blk.new w _ _).kept (S := No) ((Kp.refl _ _).alloc _) (fun x => x))
  have HB4 : Hid (Blk w1 (w.heap.size + 1) 56 [.int .i64 (s.size : Int), .slice none 0 0]) := Lib.hid (by
    rw [← hw1]
    have h := Blk.new (w.alloc (.cells #[.int .i64 0, .slice none 0 0] 56)) [.int .i64 (s.size : Int), .slice none 0 0] 56
    simpa using h)
  have HK1 : Hid (Kp No w w1) := Lib.hid (by rw [← hw1]; exact ((Kp.refl _ _).alloc _).alloc _)
  rw [hw1]
  clear hw1
  refine (c_cut s _ (by omega)).mono ?_
  rintro e w2 ⟨A2, c2, rfl, ho2, hk2⟩
  have hlt4 : w.heap.size + 1 < w1.heap.size := HB4.out.lt
  have HO2 := Lib.hid ho2
  have HB22 := Lib.hid (HB2.out.kept hk2 (fun x => x))
  have HB24 := Lib.hid (HB4.out.kept hk2 (fun x => x))
  have HK2 := Lib.hid (HK1.out.trans' hk2)
  have hsz : w1.heap.size ≤ w2.heap.size := hk2.size
  have hcz : ∀ x ∈ cutsB s, x.size ≤ 1048576 := fun x hx => by have := cutsB_sizes s x hx; omega
  have hcl : (cutsB s).length ≤ 9 := by rw [cutsB_length]; omega
  have HH : Hid (hashesB s = (cutsB s).map shaB) := Lib.hid rfl
  obtain ⟨L, hL⟩ : ∃ L, cutsB s = L := ⟨_, rfl⟩
  rw [hL] at HO2 hcz hcl HH
  rw [hL]
  have HCZ := Lib.hid hcz
  clear ho2 hk2 HB2 HB4 HK1 hcz hL
  go_wp2_with fail
  obtain ⟨wo, hwo⟩ : ∃ wo : World, wo = w2 := ⟨_, rfl⟩
  go_loopw [17] (fun iv wr => ∃ (k : Nat) (v : Value), k ≤ L.length ∧ iv = .int .i64 (k : Int) ∧ Blk wr (w.heap.size + 1) 56 [.int .i64 (s.size : Int), v] ∧ Own Rp.str wr No w2.heap.size 9 v ((L.take k).map shaB) ∧ Kp (· = w.heap.size + 1) w2 wr) (fun iv _ => L.length - (intOf iv).toNat)
  case atStart => exact ⟨0, _, Nat.zero_le _, rfl, HB24.out, Own.nil _ _ _ _ _, Kp.refl _ _⟩
  case round =>
    clear hwo
    obtain ⟨k, v, hk, rfl, hb4, hown, hkr⟩ := hrel
    obtain ⟨Av, cv, rfl⟩ := hown.shape
    have hvl : ((L.take k).map shaB).length = k := by rw [List.length_map, List.length_take]; omega
    rw [hvl] at hb4 hown
    have HB := Lib.hid hb4
    have HO := Lib.hid hown
    have HK := Lib.hid hkr
    clear hb4 hown hkr
    by_cases hlt : k < L.length
    · obtain ⟨x, hx⟩ : ∃ x, L[k]? = some x := ⟨_, List.getElem?_eq_getElem hlt⟩
      have hoc := HO2.out.kept HK.out (fun _ h => h.elim) (fun g hg e => by have := (HO2.out.lt g hg).1; omega)
      obtain ⟨gc, rfl, hgc1, hgc2, hcell, _, _⟩ := Own.cellBy Rp.str_by hoc hx
      have hxs := HCZ.out x (List.mem_of_getElem? hx)
      have hst : (L.take (k + 1)).map shaB = (L.take k).map shaB ++ [shaB x] := by
        obtain ⟨h, rfl⟩ := List.getElem?_eq_some_iff.1 hx
        rw [List.take_succ_eq_append_getElem h, List.map_append]; rfl
      have HST := Lib.hid hst
      have c1 : wr.cell? ⟨w.heap.size + 1, 1, none⟩ = some (.slice Av k cv) := HB.out.cell rfl
      have f1 := HB.out.fr 1
      have hbl := HB.out.lt
      have hne1 : w.heap.size + 1 ≠ wr.heap.size := by omega
      have hgne : gc ≠ wr.heap.size := by omega
      clear hx hst hoc
      go_wp2_with fail
      refine Reg.wp_region_plan [⟨0, false, []⟩, ⟨1, false, []⟩, ⟨2, false, []⟩, ⟨3, true, [0, 1]⟩, ⟨4, true, [0, 1]⟩, ⟨5, true, [0, 1]⟩, ⟨6, true, []⟩, ⟨7, false, []⟩, ⟨8, true, []⟩] rfl (by kernel_rfl) ?_
      repeat (first | (refine Reg.look rfl rfl rfl (by go_simp; rfl) rfl ?_; go_simp) | (refine Reg.skip rfl rfl rfl ?_; go_simp))
      refine Reg.act rfl ?_
      go_wp2
      (refine ⟨?anew, ?_⟩; case anew => ((repeat (refine Reg.anew_cons rfl rfl (fun _ => by go_simp) ?_)); exact Reg.anew_nil))
      refine Reg.act rfl ?_
      go_wp2_with fail
      refine (t_sum1 x ((wr.alloc (.cells #[.string x] 9)).drew) (heap_alloc_new wr _) hxs).mono ?_
      rintro e w5 ⟨rfl, hk5⟩
      have hk5' : Kp No wr w5 := (((Kp.refl _ _).alloc _).drew).trans' hk5
      have HB5 := Lib.hid (HB.out.kept hk5' (fun x => x))
      have HO5 := Lib.hid (HO.out.keptNo hk5')
      have HK5 := Lib.hid (HK.out.transNo hk5')
      have c5 : w5.cell? ⟨w.heap.size + 1, 1, none⟩ = some (.slice Av k cv) := HB5.out.cell rfl
      have hbl5 := HB5.out.lt
      have hne5 : w.heap.size + 1 ≠ w5.heap.size := by omega
      clear hk5 hk5' HB HO HK
      go_wp2_with fail
      (refine ⟨?anew, ?_⟩; case anew => ((repeat (refine Reg.anew_cons rfl rfl (fun _ => by go_simp) ?_)); exact Reg.anew_nil))
      refine Reg.act rfl ?_
      go_wp2
      (refine ⟨?anew, ?_⟩; case anew => ((repeat (refine Reg.anew_cons rfl rfl (fun _ => by go_simp) ?_)); exact Reg.anew_nil))
      refine Reg.act rfl ?_
      have hDl : ((L.take k).map shaB).length = k := by rw [List.length_map, List.length_take]; omega
      obtain ⟨D, hD⟩ : ∃ D, (L.take k).map shaB = D := ⟨_, rfl⟩
      rw [hD] at HO5 HST hDl
      have HDL := Lib.hid hDl
      obtain ⟨y, hy⟩ : ∃ y, shaB x = y := ⟨_, rfl⟩
      have hys : y.size = 32 := by rw [← hy]; exact shaB_size x
      rw [hy] at HST ⊢
      have HYS : Hid (y.size ≤ maxLen) := Lib.hid (by rw [hys]; decide)
      clear hD hDl hy hys
      refine wpList_append_lit Rp.str_by rfl _ (.tmp 22) (.tmp 26) 38 rfl w2.heap.size 9 16 elem_str (.slice Av k cv) D rfl No ?d0 w5.heap.size [y] rfl _ _ _ (heap_alloc_new w5 _) rfl ?d2 ?d3 ?d4 ?d5 ?d6 ?_
      case d0 => have h := HO5.out; rw [← HDL.out] at h; rw [← HDL.out]; exact (h.alloc _).drew
      case d2 => intro a ha; simp only [List.mem_cons, List.not_mem_nil, or_false] at ha; subst ha; exact HYS.out
      case d3 => have := HDL.out; simp [maxLen]; omega
      case d4 => have := HDL.out; simp; omega
      case d5 => have := HK5.out.size; simp; omega
      case d6 => intro h; have := (HO5.out.lt _ h).2; omega
      intro A3 c3 w6 hown hk6
      have hg4 : (Value.slice Av k cv).ownBlock ≠ some (w.heap.size + 1) := fun h => by have := (HO5.out.lt _ h).1; omega
      have HB6 := Lib.hid ((HB5.out.kept (S := No) ((Kp.refl _ _).alloc _) (fun x => x)).kept (S := fun i => (Value.slice Av k cv).ownBlock = some i) hk6 (fun e => hg4 e))
      have HK6 := Lib.hid ((HK5.out.alloc _).trans hk6 (fun i hi hv => absurd (HO5.out.lt i hv).1 (by omega)))
      have hle : (D ++ [y]).length = k + 1 := by rw [List.length_append, HDL.out]; rfl
      rw [hle] at hown
      rw [hle]
      have HO6 := Lib.hid hown
      have c6 : w6.cell? ⟨w.heap.size + 1, 1, none⟩ = some (.slice Av k cv) := HB6.out.cell rfl
      have f6 := HB6.out.fr 1
      clear hown hk6 c5 hle hg4
      go_wp2
      (refine ⟨?anew, ?_⟩; case anew => ((repeat (refine Reg.anew_cons rfl rfl (fun _ => by go_simp) ?_)); exact Reg.anew_nil))
      repeat (first | (refine Reg.look rfl rfl rfl (by go_simp; rfl) rfl ?_; go_simp) | (refine Reg.skip rfl rfl rfl ?_; go_simp))
      refine Reg.act rfl ?_
      go_wp2
      refine ⟨Reg.anew_nil, ?_⟩
      (refine Reg.done ?_; simp only [Exit.then])
      go_wp2
      go_roundw
      case rel =>
        refine ⟨k + 1, .slice A3 (k + 1) c3, by omega, by go_num, ?_, ?_, ?_⟩
        · have h := HB6.out.set 1 (.slice A3 (k + 1) c3)
          exact h.drew
        · rw [HST.out]
          have hk7 : Kp (· = w.heap.size + 1) w6 (w6.setCell ⟨w.heap.size + 1, 1, none⟩ (.slice A3 (k + 1) c3)) := (Kp.refl (· = w.heap.size + 1) w6).setCell (p := ⟨w.heap.size + 1, 1, none⟩) (fun _ => rfl) _
          exact (HO6.out.kept hk7 (fun _ h => h.elim) (fun g hg e => by have := (HO6.out.lt g hg).1; omega)).drew
        · exact HK6.out.setCell (p := ⟨w.heap.size + 1, 1, none⟩) (fun _ => rfl) _
      case measure => simp [intOf]; omega
    · obtain rfl : k = L.length := by omega
      rw [List.take_length, ← HH.out] at HO
      have hhl : (hashesB s).length = L.length := by rw [HH.out, List.length_map]
      have HB2 := Lib.hid (HB22.out.kept HK.out (fun e => by omega))
      have c0 : wr.cell? ⟨w.heap.size + 1, 0, none⟩ = some (.int .i64 (s.size : Int)) := HB.out.cell rfl
      have c1 : wr.cell? ⟨w.heap.size + 1, 1, none⟩ = some (.slice Av L.length cv) := HB.out.cell rfl
      have g0 : wr.cell? ⟨w.heap.size, 0, none⟩ = some (.int .i64 0) := HB2.out.cell rfl
      have g1 : wr.cell? ⟨w.heap.size, 1, none⟩ = some (.slice none 0 0) := HB2.out.cell rfl
      have f0 := HB2.out.fr 0
      have f1 := HB2.out.fr 1
      have HHL := Lib.hid hhl
      clear hhl
      go_wp2_with fail
      have hfin : Blk ((wr.setCell ⟨w.heap.size, 0, none⟩ (.int .i64 (s.size : Int))).setCell ⟨w.heap.size, 1, none⟩ (.slice Av L.length cv)) w.heap.size 56 [.int .i64 (s.size : Int), .slice Av L.length cv] := (HB2.out.set 0 (.int .i64 (s.size : Int))).set 1 (.slice Av L.length cv)
      have hkf : Kp (· = w.heap.size) wr ((wr.setCell ⟨w.heap.size, 0, none⟩ (.int .i64 (s.size : Int))).setCell ⟨w.heap.size, 1, none⟩ (.slice Av L.length cv)) := ((Kp.refl (· = w.heap.size) wr).setCell (p := ⟨w.heap.size, 0, none⟩) (fun _ => rfl) _).setCell (p := ⟨w.heap.size, 1, none⟩) (fun _ => rfl) _
      refine bodyPost_ret (results_ct rfl _ _ w.heap.size _ _ _ _ rfl hfin Try.underlying56 rfl (by kernel_rfl)) rfl ⟨⟨Av, cv, ?_, ?_⟩, ?_⟩
      · rw [HHL.out]; rfl
      · rw [HHL.out]
        exact ((HO.out.kept hkf (fun _ h => h.elim) (fun g hg e => by have := (HO.out.lt g hg).1; omega)).mono (by omega) (fun _ h => h))
      · exact (HK2.out.trans HK.out (fun i hi e => by omega)).trans hkf (fun i hi e => by omega)
end Go.Proofs.Ytamfgmlhopjppaa
