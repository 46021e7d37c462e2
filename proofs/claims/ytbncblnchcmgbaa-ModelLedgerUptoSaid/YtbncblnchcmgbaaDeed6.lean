/-
  The document's OwnOps.
-/
import Derived.Test.YtbncblnchcmgbaaOwnL
namespace Go.Proofs.Ytbncblnchcmgbaa
open Go.RowKit Go.ChangeShapes Go.WideShapes Go.ChangeAt

/-- new since w0, but for a slice's own row -/
def NewX (w0 w : World) (v : Value) : Nat → Prop := fun k => w0.heap.size ≤ k ∧ k < w.heap.size ∧ v.ownBlock ≠ some k
theorem opl_lit (w : World) (o : OpL) (hv : Value) (S : Nat → Prop) (hS : S w.heap.size) (hn : o.nums) (hr : Rp.str.slice.R w S [hv] o.hashes) :
    Rp.opl.slice.R (w.alloc (.cells (o.cells hv).toArray 38)) S [.slice (some ⟨w.heap.size, 0, none⟩) 1 1] [o] := by
  refine ⟨_, _, rfl, Nat.le_refl _, by unfold maxLen; omega, fun _ => ⟨_, rfl, hS, fun i a hi => ?_⟩⟩
  obtain rfl : i = 0 := by have := (List.getElem?_eq_some_iff.1 hi).1; simp at this; exact this
  injection hi with hi
  subst hi
  refine ⟨o.cells hv, fun j u hu => ?_, hv, rfl, hn, Rp.str.slice.keptNo hr ((Kp.refl _ _).alloc _)⟩
  rw [Addr.add_lit, Addr.add_lit]
  have hb : Blk (w.alloc (.cells (o.cells hv).toArray 38)) w.heap.size 38 (o.cells hv) := Blk.new w (o.cells hv) _
  have h2 := hb.cell hu
  simpa using h2
set_option maxRecDepth 100000 in
set_option maxHeartbeats 2000000 in
theorem r_ownops (l : List OpL) (A : Option Addr) (c : Nat) (w : World) (S : Nat → Prop) (hl : Rp.opl.slice.R w S [.slice A l.length c] l) (hll : l.length ≤ 1000000) (hsm : ∀ o ∈ l, o.hashes.length ≤ 1000000) :
    Calls Try.prog 18 #[.slice A l.length c] w fun e w' => ∃ A' c', e = .returned (.slice A' l.length c') ∧ Own Rp.opl w' (NewX w w' (.slice A' l.length c')) w.heap.size 38 (.slice A' l.length c') l ∧ Kp No w w' := by
  have HL := Lib.hid hl
  have HSM := Lib.hid hsm
  clear hl hsm
  go_enter Try.func18, Try.ntmps18
  go_wp2_with fail
  go_loopw [3, 4] (fun ov iv wr => ∃ i : Nat, i ≤ l.length ∧ iv = .int .i64 (i : Int) ∧ Hid (Own Rp.opl wr (NewX w wr ov) w.heap.size 38 ov (l.take i)) ∧ Hid (Kp No w wr)) (fun _ iv _ => l.length - (intOf iv).toNat)
  case atStart => exact ⟨0, Nat.zero_le _, rfl, Lib.hid (Own.nil _ _ _ _ _), Lib.hid (Kp.refl _ _)⟩
  case round =>
    obtain ⟨i, hi, rfl, HO, HK⟩ := hrel
    obtain ⟨Av, cv, rfl⟩ := HO.out.shape
    have hDi : (l.take i).length = i := by rw [List.length_take]; omega
    by_cases hlt : i < l.length
    · have hli : (i : Int) < (l.length : Int) := by omega
      obtain ⟨o, ho⟩ : ∃ o, l[i]? = some o := ⟨_, List.getElem?_eq_getElem hlt⟩
      have hst : l.take (i + 1) = l.take i ++ [o] := by
        obtain ⟨e1, e2⟩ := List.getElem?_eq_some_iff.1 ho
        rw [List.take_succ_eq_append_getElem e1, e2]
      have hos := HSM.out o (List.mem_of_getElem? ho)
      obtain ⟨ad, A', c', rfl, _, hcell, hnum, hrd⟩ := Rp.at_opl (Rp.opl.slice.keptNo HL.out HK.out) ho
      obtain ⟨z0, z1, z2, z3, z4, z5, z6, z7, z8⟩ := opl_cells hcell
      have HNUM := Lib.hid hnum
      have HRD := Lib.hid (Rp.str.slice.keptNo hrd ((Kp.refl No wr).alloc (.cells #[.int .i64 o.n, .int .i64 o.epoch, .int .i64 o.kind, .int .i64 o.site, .int .i64 o.client, .int .i64 o.seq, .string o.name, .int .i64 o.size, .slice A' o.hashes.length c'] 38)))
      have HBO := Lib.hid (Blk.new wr [.int .i64 o.n, .int .i64 o.epoch, .int .i64 o.kind, .int .i64 o.site, .int .i64 o.client, .int .i64 o.seq, .string o.name, .int .i64 o.size, .slice A' o.hashes.length c'] 38)
      have hsz : (wr.alloc (.cells #[.int .i64 o.n, .int .i64 o.epoch, .int .i64 o.kind, .int .i64 o.site, .int .i64 o.client, .int .i64 o.seq, .string o.name, .int .i64 o.size, .slice A' o.hashes.length c'] 38)).heap.size = wr.heap.size + 1 := by simp
      have HGE := Lib.hid (Nat.le_of_eq hsz)
      have HNW : Hid (((wr.alloc (.cells #[.int .i64 o.n, .int .i64 o.epoch, .int .i64 o.kind, .int .i64 o.site, .int .i64 o.client, .int .i64 o.seq, .string o.name, .int .i64 o.size, .slice A' o.hashes.length c'] 38)).alloc (.cells #[] 9)).heap[wr.heap.size + 1]? = some (.cells #[] 9 (0, 0))) := Lib.hid (by rw [← hsz]; exact heap_alloc_new _ _)
      clear hsz
      obtain ⟨E, hE⟩ : ∃ E, l.take i = E := ⟨_, rfl⟩
      rw [hE] at HO hst hDi
      rw [hE]
      have HST := Lib.hid hst
      have hEl : E.length ≤ 1000000 := by omega
      have HDI := Lib.hid hDi
      clear hDi
      clear ho hst hcell hnum hrd hE
      go_wp2_with (at_builtin; first
        | (refine wpList_copy_at (E := Rp.str) rfl (wr.alloc (.cells #[.int .i64 o.n, .int .i64 o.epoch, .int .i64 o.kind, .int .i64 o.site, .int .i64 o.client, .int .i64 o.seq, .string o.name, .int .i64 o.size, .slice A' o.hashes.length c'] 38)) _ (wr.heap.size + 1) (.tmp 16) (.tmp 19) 34 rfl 9 16 el_strL rfl HNW.out HGE.out ((Kp.refl _ _).alloc _) A' c' S o.hashes rfl HRD.out Rp.str_one (by omega) ?_
           intro A5 c5 w5 hown5 hk5
           have hb5 := Blk.kept HBO.out hk5 (fun x => x)
           have y0 : w5.cell? ⟨wr.heap.size, 0, none⟩ = some _ := Blk.cell hb5 rfl
           have y1 : w5.cell? ⟨wr.heap.size, 1, none⟩ = some _ := Blk.cell hb5 rfl
           have y2 : w5.cell? ⟨wr.heap.size, 2, none⟩ = some _ := Blk.cell hb5 rfl
           have y3 : w5.cell? ⟨wr.heap.size, 3, none⟩ = some _ := Blk.cell hb5 rfl
           have y4 : w5.cell? ⟨wr.heap.size, 4, none⟩ = some _ := Blk.cell hb5 rfl
           have y5 : w5.cell? ⟨wr.heap.size, 5, none⟩ = some _ := Blk.cell hb5 rfl
           have y6 : w5.cell? ⟨wr.heap.size, 6, none⟩ = some _ := Blk.cell hb5 rfl
           have y7 : w5.cell? ⟨wr.heap.size, 7, none⟩ = some _ := Blk.cell hb5 rfl
           have y8 : w5.cell? ⟨wr.heap.size, 8, none⟩ = some _ := Blk.cell hb5 rfl
           have g8 := Blk.fr hb5 8
           have hb6 := Blk.set hb5 8 (.slice A5 o.hashes.length c5)
           have hk6 : Kp No wr (w5.setCell ⟨wr.heap.size, 8, none⟩ (.slice A5 o.hashes.length c5)) := (((Kp.refl No wr).alloc _).trans' hk5).trans ((Kp.refl (· = wr.heap.size) w5).setCell (p := ⟨wr.heap.size, 8, none⟩) (fun _ => rfl) _) (fun k hk e => absurd hk (by omega))
           have hsz6 : (w5.setCell ⟨wr.heap.size, 8, none⟩ (.slice A5 o.hashes.length c5)).heap.size = w5.heap.size := by simp
           have hw5 : wr.heap.size < w5.heap.size := Blk.lt hb5
           have hr6 : Rp.str.slice.R (w5.setCell ⟨wr.heap.size, 8, none⟩ (.slice A5 o.hashes.length c5)) (fun k => wr.heap.size < k ∧ k < w5.heap.size) [.slice A5 o.hashes.length c5] o.hashes := by
             have h := (hown5.str_any (fun k => wr.heap.size < k ∧ k < w5.heap.size)).read (fun k hk => ⟨by have := (hown5.lt k hk).1; omega, (hown5.lt k hk).2⟩)
             exact Rp.str.slice.kept h ((Kp.refl (· = wr.heap.size) w5).setCell (p := ⟨wr.heap.size, 8, none⟩) (fun _ => rfl) _) (fun k hk _ e => by have := hk.1; omega)
           have hsrc := opl_lit (w5.setCell ⟨wr.heap.size, 8, none⟩ (.slice A5 o.hashes.length c5)) o (.slice A5 o.hashes.length c5) (fun k => w.heap.size ≤ k ∧ k < w5.heap.size + 1 ∧ (Value.slice Av E.length cv).ownBlock ≠ some k) (by
             rw [hsz6]
             refine ⟨by have := HK.out.size; omega, by omega, fun h => ?_⟩
             have := (HO.out.lt _ h).2
             omega) HNUM.out (Rp.str.slice.more hr6 (fun k hk => ⟨by have := HK.out.size; omega, by omega, fun h => by have := (HO.out.lt _ h).2; omega⟩))
           rw [hsz6] at hsrc
           have HSRC := Lib.hid hsrc
           have HOW : Hid (Own Rp.opl ((w5.setCell ⟨wr.heap.size, 8, none⟩ (.slice A5 o.hashes.length c5)).alloc (.cells (o.cells (.slice A5 o.hashes.length c5)).toArray 38)) (fun k => w.heap.size ≤ k ∧ k < w5.heap.size + 1 ∧ (Value.slice Av E.length cv).ownBlock ≠ some k) w.heap.size 38 (.slice Av E.length cv) E) := Lib.hid ((HO.out.keptNo (hk6.alloc _)).mono (Nat.le_refl _) (fun k hk => ⟨hk.1, by have := hk.2.1; omega, hk.2.2⟩))
           have HK6 := Lib.hid (hk6.alloc (.cells (o.cells (.slice A5 o.hashes.length c5)).toArray 38))
           have HSZ7 : Hid (((w5.setCell ⟨wr.heap.size, 8, none⟩ (.slice A5 o.hashes.length c5)).alloc (.cells (o.cells (.slice A5 o.hashes.length c5)).toArray 38)).heap.size = w5.heap.size + 1) := Lib.hid (by simp)
           have HLTO := Lib.hid HO.out.lt
           clear hown5 hk5 hb5 hb6 hk6 hsz6 hr6 hsrc z0 z1 z2 z3 z4 z5 z6 z7 z8)
        | (refine wpList_append_rp (E := Rp.opl) rfl _ (.tmp 23) (.tmp 25) 42 rfl w.heap.size 38 96 el_op (fun k => w.heap.size ≤ k ∧ k < w5.heap.size + 1 ∧ (Value.slice Av E.length cv).ownBlock ≠ some k) (.slice Av E.length cv) E rfl HOW.out (some ⟨w5.heap.size, 0, none⟩) 1 (fun k => w.heap.size ≤ k ∧ k < w5.heap.size + 1 ∧ (Value.slice Av E.length cv).ownBlock ≠ some k) [o] rfl HSRC.out Rp.opl_one ?hcap ?hby ?hbase (fun _ h => h) (fun k hk h => h.2.2 hk) ?_
           case hcap => simp [maxLen]; omega
           case hby => simp; omega
           case hbase => have h1 := HK.out.size; have h2 := HK6.out.size; exact Nat.le_trans h1 h2
           intro v9 w9 hown9 hg9 hbl9
           obtain ⟨A9, c9, rfl⟩ := hown9.shape
           have hk9 : Kp No w w9 := (HK.out.trans' HK6.out).grown hg9 (fun k hk hlt => by have := (HLTO.out k hk).1; omega)
           have hs9 : w5.heap.size + 1 ≤ w9.heap.size := Nat.le_trans (Nat.le_of_eq HSZ7.out.symm) ((Kp.refl (fun _ => True) _).grown hg9 (fun _ _ _ => trivial)).size
           have hbl9 : (Value.slice A9 (E ++ [o]).length c9).ownBlock = (Value.slice Av E.length cv).ownBlock ∨ (Value.slice A9 (E ++ [o]).length c9).ownBlock = some (w5.heap.size + 1) := hbl9.imp id (fun h => h.trans (congrArg some HSZ7.out))
           have HO9 : Hid (Own Rp.opl w9 (NewX w w9 (.slice A9 (E ++ [o]).length c9)) w.heap.size 38 (.slice A9 (E ++ [o]).length c9) (E ++ [o])) := Lib.hid (hown9.mono (Nat.le_refl _) (fun k hk => ⟨hk.1, by have := hk.2.1; omega, fun h => by
             rcases hbl9 with h2 | h2
             · exact hk.2.2 (h2 ▸ h)
             · rw [h2] at h; injection h with h; have := hk.2.1; omega⟩))
           have HK9 := Lib.hid hk9
           clear hown9 hg9 hbl9 hk9 hs9 HOW HSRC HK6 y0 y1 y2 y3 y4 y5 y6 y7 y8 g8))
      have hle : (E ++ [o]).length = E.length + 1 := by simp
      rw [hle, ← HST.out] at HO9
      go_roundw
      case rel => exact ⟨i + 1, by omega, by go_num, HO9, HK9⟩
      case measure => simp [intOf]; omega
    · obtain rfl : i = l.length := by omega
      have hall : l.take l.length = l := List.take_length
      rw [hall] at HO
      have HO2 := HO
      have hle : (l.take l.length).length = l.length := by rw [hall]
      clear hDi
      go_wp2_with fail
      go_ret
      refine ⟨_, _, ?_, HO2.out, HK.out⟩
      rw [hle]
      rfl
end Go.Proofs.Ytbncblnchcmgbaa
