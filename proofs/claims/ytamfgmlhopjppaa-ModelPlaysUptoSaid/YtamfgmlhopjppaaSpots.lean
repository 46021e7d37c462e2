/-
  redoubtlaw26.spots.
-/
import Derived.Test.YtamfgmlhopjppaaGN
import Derived.Test.YtamfgmlhopjppaaGE
namespace Go.Proofs.Ytamfgmlhopjppaa
open Go.RowKit Go.ChangeShapes Go.WideShapes Go.ChangeAt

def spotsL (l : List OpL) : List (Int × Int) := [(0, 0), (1, 1), (3, 2)] ++ l.map (fun o => (o.n, o.epoch))
theorem el_spot : Elem Try.prog 49 37 2 16 := Elem.of Try.underlying49 (z := .agg #[.int .i64 0, .int .i64 0]) (by kernel_rfl) rfl (by decide)
theorem Rp.spot_one {w : World} : ∀ cs a S', Rp.spot.R w S' cs a → ∀ u ∈ cs, u.oneCell' = true := by
  rintro cs a S' ⟨rfl, _⟩ u hu
  simp only [List.mem_cons, List.not_mem_nil, or_false] at hu
  rcases hu with rfl | rfl <;> rfl
theorem spot_lit (w : World) (p : Int × Int) (S : Nat → Prop) (hS : S w.heap.size) (h1 : I64 p.1) (h2 : I64 p.2) :
    Rp.spot.slice.R (w.alloc (.cells #[.int .i64 p.1, .int .i64 p.2] 37)) S [.slice (some ⟨w.heap.size, 0, none⟩) 1 1] [p] := by
  refine ⟨_, _, rfl, Nat.le_refl _, by unfold maxLen; simp, fun _ => ⟨_, rfl, hS, fun i b hi => ?_⟩⟩
  obtain rfl : i = 0 := by have := (List.getElem?_eq_some_iff.1 hi).1; simp at this; exact this
  injection hi with hi
  subst hi
  refine ⟨[.int .i64 p.1, .int .i64 p.2], fun j u hu => ?_, rfl, h1, h2⟩
  rw [Addr.add_lit, Addr.add_lit]
  have hb : Blk (w.alloc (.cells #[.int .i64 p.1, .int .i64 p.2] 37)) w.heap.size 37 [.int .i64 p.1, .int .i64 p.2] := Blk.new w _ _
  have h2 := hb.cell hu
  simpa using h2
theorem spot_three (w : World) : Own Rp.spot (w.alloc (.cells #[.int .i64 0, .int .i64 0, .int .i64 1, .int .i64 1, .int .i64 3, .int .i64 2] 37)) No w.heap.size 37 (.slice (some ⟨w.heap.size, 0, none⟩) 3 3) [(0, 0), (1, 1), (3, 2)] := by
  refine ⟨[.int .i64 0, .int .i64 0, .int .i64 1, .int .i64 1, .int .i64 3, .int .i64 2], ⟨rfl, .inr ⟨w.heap.size, 3, _, rfl, Nat.le_refl _, heap_alloc_new _ _, Nat.le_refl _, by unfold maxLen; omega, rfl, rfl⟩⟩, ?_, fun i a hi => ?_⟩
  · intro u hu
    simp only [List.mem_cons, List.not_mem_nil, or_false] at hu
    rcases hu with rfl | rfl | rfl | rfl | rfl | rfl <;> rfl
  · match i, hi with
    | 0, hi => injection hi with hi; subst hi; exact ⟨rfl, rfl, rfl⟩
    | 1, hi => injection hi with hi; subst hi; exact ⟨rfl, rfl, rfl⟩
    | 2, hi => injection hi with hi; subst hi; exact ⟨rfl, rfl, rfl⟩
    | n + 3, hi => simp at hi
theorem Own.spot_any {w : World} {S : Nat → Prop} {base : Nat} {e : TypeId} {v : Value} {l : List (Int × Int)} (h : Own Rp.spot w S base e v l) (S' : Nat → Prop) : Own Rp.spot w S' base e v l := by
  obtain ⟨xs, q1, q2, q3⟩ := h
  exact ⟨xs, q1, q2, fun i a ha => q3 i a ha⟩
set_option maxRecDepth 100000 in
set_option maxHeartbeats 4000000 in
theorem h_spots (l : List OpL) (A : Option Addr) (c : Nat) (w : World) (S : Nat → Prop) (hl : Rp.opl.slice.R w S [.slice A l.length c] l) (hll : l.length ≤ 1000000) :
    Calls Try.prog 15 #[.slice A l.length c] w fun e w' => ∃ A' c', e = .returned (.slice A' (spotsL l).length c') ∧ Rp.spot.slice.R w' (fun k => w.heap.size ≤ k) [.slice A' (spotsL l).length c'] (spotsL l) ∧ Kp No w w' := by
  have HL := Lib.hid hl
  have h3 : Hid (Own Rp.spot (w.alloc (.cells #[.int .i64 0, .int .i64 0, .int .i64 1, .int .i64 1, .int .i64 3, .int .i64 2] 37)) No w.heap.size 37 (.slice (some ⟨w.heap.size, 0, none⟩) 3 3) (spotsL (l.take 0))) := Lib.hid (spot_three w)
  have hk3 : Hid (Kp No w (w.alloc (.cells #[.int .i64 0, .int .i64 0, .int .i64 1, .int .i64 1, .int .i64 3, .int .i64 2] 37))) := Lib.hid ((Kp.refl _ _).alloc _)
  clear hl
  go_enter Try.func15, Try.ntmps15
  go_wp2_with fail
  go_loopw [3, 12] (fun ov iv wr => ∃ i : Nat, i ≤ l.length ∧ iv = .int .i64 (i : Int) ∧ Hid (Own Rp.spot wr No w.heap.size 37 ov (spotsL (l.take i))) ∧ Hid (Kp No w wr)) (fun _ iv _ => l.length - (intOf iv).toNat)
  case atStart => exact ⟨0, Nat.zero_le _, rfl, h3, hk3⟩
  case round =>
    obtain ⟨i, hi, rfl, HO, HK⟩ := hrel
    obtain ⟨Av, cv, rfl⟩ := HO.out.shape
    by_cases hlt : i < l.length
    · have hli : (i : Int) < (l.length : Int) := by omega
      obtain ⟨o, ho⟩ : ∃ o, l[i]? = some o := ⟨_, List.getElem?_eq_getElem hlt⟩
      have HST : Hid (spotsL (l.take (i + 1)) = spotsL (l.take i) ++ [(o.n, o.epoch)]) := Lib.hid (by
        rw [List.take_add_one, ho]
        simp [spotsL])
      have HEL : Hid ((spotsL (l.take i)).length ≤ 1000003) := Lib.hid (by simp [spotsL]; omega)
      obtain ⟨ad, A', c', rfl, _, hcell, hnum, _⟩ := Rp.at_opl (Rp.opl.slice.keptNo HL.out HK.out) ho
      obtain ⟨z0, z1, z2, z3, z4, z5, z6, z7, z8⟩ := opl_cells hcell
      obtain ⟨E, hE⟩ : ∃ E, spotsL (l.take i) = E := ⟨_, rfl⟩
      rw [hE] at HO HST HEL
      obtain ⟨w1, hw1⟩ : ∃ v, wr.alloc (.cells #[.int .i64 o.n, .int .i64 o.epoch, .int .i64 o.kind, .int .i64 o.site, .int .i64 o.client, .int .i64 o.seq, .string o.name, .int .i64 o.size, .slice A' o.hashes.length c'] 58) = v := ⟨_, rfl⟩
      have hk1 : Kp No wr w1 := by rw [← hw1]; exact (Kp.refl _ _).alloc _
      have hbx : Blk w1 wr.heap.size 58 [.int .i64 o.n, .int .i64 o.epoch, .int .i64 o.kind, .int .i64 o.site, .int .i64 o.client, .int .i64 o.seq, .string o.name, .int .i64 o.size, .slice A' o.hashes.length c'] := by rw [← hw1]; exact Blk.new wr _ _
      have x0 : w1.cell? ⟨wr.heap.size, 0, none⟩ = some _ := Blk.cell hbx rfl
      have x1 : w1.cell? ⟨wr.heap.size, 1, none⟩ = some _ := Blk.cell hbx rfl
      clear hbx
      obtain ⟨g1, hg1⟩ : ∃ v, w1.heap.size = v := ⟨_, rfl⟩
      have hsz : w1.heap.size = wr.heap.size + 1 := by rw [← hw1]; simp
      have hsrc := spot_lit w1 (o.n, o.epoch) (fun k => k = g1) hg1 hnum.1 hnum.2.1
      obtain ⟨w2, hw2⟩ : ∃ v, w1.alloc (.cells #[.int .i64 o.n, .int .i64 o.epoch] 37) = v := ⟨_, rfl⟩
      have hk2 : Kp No w1 w2 := by rw [← hw2]; exact (Kp.refl _ _).alloc _
      rw [hg1] at hsrc
      simp only at hsrc
      rw [hw2] at hsrc
      have HSRC := Lib.hid hsrc
      have HO2 := Lib.hid ((HO.out.keptNo (hk1.trans' hk2)).spot_any (fun k => k = g1))
      have HK2 := Lib.hid (HK.out.trans' (hk1.trans' hk2))
      have HLTO : Hid (∀ k, (Value.slice Av E.length cv).ownBlock = some k → k < g1) := Lib.hid (fun k hk => by have := (HO.out.lt k hk).2; omega)
      have HBW : Hid (w.heap.size ≤ w2.heap.size) := Lib.hid HK2.out.size
      rw [hE]
      clear hcell hnum ho hk1 hk2 hsrc hE hsz
      go_wp2_with (at_builtin; refine wpList_append_rp (E := Rp.spot) rfl _ (.tmp 16) (.tmp 22) 49 rfl w.heap.size 37 16 el_spot (fun k => k = g1) (.slice Av E.length cv) E rfl HO2.out (some ⟨g1, 0, none⟩) 1 (fun k => k = g1) [(o.n, o.epoch)] rfl HSRC.out Rp.spot_one ?hcap ?hby HBW.out (fun _ h => h) ?hsv ?_)
      case hcap => have := HEL.out; simp [maxLen]; omega
      case hby => have := HEL.out; simp; omega
      case hsv => exact fun k hk e => by have := HLTO.out k hk; omega
      intro v3 w3 hown3 hg3 _
      have HO3 := Lib.hid (hown3.spot_any No)
      have HK3 := Lib.hid (HK2.out.grown hg3 (fun k hk hlt => by have := (HO2.out.lt k hk).1; omega))
      rw [← HST.out] at HO3
      clear hown3 hg3
      go_wp2_with fail
      go_roundw
      case rel => exact ⟨i + 1, by omega, by go_num, HO3, HK3⟩
      case measure => simp [intOf]; omega
    · obtain rfl : i = l.length := by omega
      have hall : l.take l.length = l := List.take_length
      rw [hall] at HO ⊢
      go_wp2_with fail
      go_ret
      exact ⟨_, _, rfl, Rp.spot.slice.more HO.out.readFrom (fun k hk => by
        rcases hk with hk | hk
        · exact hk.elim
        · exact hk), HK.out⟩
end Go.Proofs.Ytamfgmlhopjppaa
