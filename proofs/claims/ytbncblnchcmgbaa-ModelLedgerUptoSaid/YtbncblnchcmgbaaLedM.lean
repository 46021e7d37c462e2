/-
  A ledger in memory.
-/
import Derived.Test.YtbncblnchcmgbaaLedL
import Derived.Test.YtbncblnchcmgbaaTake
import Derived.Test.YtbncblnchcmgbaaLed1
import Derived.Test.YtbncblnchcmgbaaLit1
namespace Go.Proofs.Ytbncblnchcmgbaa
open Go.RowKit Go.ChangeShapes Go.WideShapes Go.ChangeAt

/-- a new row of one operation -/
theorem Own.one (w : World) (o : OpL) (v : Value) (S : Nat → Prop) (hn : o.nums) (hr : Rp.str.slice.R w S [v] o.hashes) (hv : v.oneCell' = true) :
    Own Rp.opl (w.alloc (.cells (o.cells v).toArray 38)) S w.heap.size 38 (.slice (some ⟨w.heap.size, 0, none⟩) 1 1) [o] := by
  refine ⟨o.cells v, ⟨rfl, .inr ⟨w.heap.size, 1, _, rfl, Nat.le_refl _, heap_alloc_new _ _, Nat.le_refl _, by unfold maxLen; omega, rfl, rfl⟩⟩, ?_, fun i a hi => ?_⟩
  · intro u hu
    simp only [OpL.cells, List.mem_cons, List.not_mem_nil, or_false] at hu
    rcases hu with rfl | rfl | rfl | rfl | rfl | rfl | rfl | rfl | rfl <;> first | rfl | exact hv
  · obtain rfl : i = 0 := by have := (List.getElem?_eq_some_iff.1 hi).1; simp at this; exact this
    injection hi with hi
    subst hi
    exact ⟨v, rfl, hn, Rp.str.slice.keptNo hr ((Kp.refl _ _).alloc _)⟩
/-- a ledger in memory: its block, its maps, its rows; S: what its hashes rest on -/
structure LIn (w : World) (l b1 b2 : Nat) (ov lv : Value) (S : Nat → Prop) (f : FV) (L : LV) : Prop where
  fat : FAt w l [ov, lv, .int .i64 L.fence, .int .i64 L.settled, .int .i64 L.quota, .int .i64 L.room] b1 b2 S f
  ops : Own Rp.opl w S 0 38 ov L.ops
  lost : Own Rp.opl w S 0 38 lv L.lost
  apart : ∀ k, ov.ownBlock = some k → lv.ownBlock ≠ some k
  so : ∀ k, ov.ownBlock = some k → ¬ S k
  sl : ∀ k, lv.ownBlock = some k → ¬ S k
  sb : ∀ k, S k → k < w.heap.size
/-- all that a ledger rests on -/
def Foot (l b1 b2 : Nat) (ov lv : Value) (S : Nat → Prop) : Nat → Prop := fun k => T3 l b1 b2 k ∨ ov.ownBlock = some k ∨ lv.ownBlock = some k ∨ S k
def LAt (w : World) (l : Nat) (L : LV) (F : Nat → Prop) : Prop := ∃ b1 b2 ov lv S, LIn w l b1 b2 ov lv S L.fold L ∧ ∀ k, F k ↔ Foot l b1 b2 ov lv S k
theorem Own.ne_blk {α : Type} {E : Rp α} {w : World} {S : Nat → Prop} {base : Nat} {v : Value} {m : List α} {l : Nat} {cs : List Value} (h : Own E w S base 38 v m) (hb : Blk w l 106 cs) : ∀ k, v.ownBlock = some k → k ≠ l := by
  rintro k hk rfl
  obtain ⟨cs', h1⟩ := h.block hk
  unfold Blk at hb
  rw [hb] at h1
  injection h1 with h1
  injection h1 with _ h1
  exact absurd h1 (by decide)
theorem Own.ne_map {α : Type} {E : Rp α} {w : World} {S : Nat → Prop} {base : Nat} {v : Value} {e : TypeId} {m : List α} {b : Nat} {es : Array MapEntry} {clock : Nat} (h : Own E w S base e v m) (hb : w.heap[b]? = some (.map es clock)) : ∀ k, v.ownBlock = some k → k ≠ b := by
  rintro k hk rfl
  obtain ⟨cs', h1⟩ := h.block hk
  rw [hb] at h1
  cases h1
namespace LIn
variable {w w' : World} {l b1 b2 : Nat} {ov lv : Value} {S T : Nat → Prop} {f : FV} {L : LV}
theorem kept (h : LIn w l b1 b2 ov lv S f L) (hk : Kp T w w') (hf : ∀ k, Foot l b1 b2 ov lv S k → ¬ T k) : LIn w' l b1 b2 ov lv S f L :=
  ⟨h.fat.kept hk (hf _ (.inl (.inl rfl))) (hf _ (.inl (.inr (.inl rfl)))) (hf _ (.inl (.inr (.inr rfl)))) (fun k hs _ => hf k (.inr (.inr (.inr hs)))),
    h.ops.kept hk (fun k hs _ => hf k (.inr (.inr (.inr hs)))) (fun k hv => hf k (.inr (.inl hv))),
    h.lost.kept hk (fun k hs _ => hf k (.inr (.inr (.inr hs)))) (fun k hv => hf k (.inr (.inr (.inl hv)))), h.apart, h.so, h.sl, fun k hs => Nat.lt_of_lt_of_le (h.sb k hs) hk.size⟩
theorem keptNo (h : LIn w l b1 b2 ov lv S f L) (hk : Kp No w w') : LIn w' l b1 b2 ov lv S f L := h.kept hk (fun _ _ x => x)
theorem ol (h : LIn w l b1 b2 ov lv S f L) : ∀ k, ov.ownBlock = some k → ¬ T3 l b1 b2 k := by
  intro k hk ht
  obtain ⟨_, _, e1⟩ := h.fat.live.block
  obtain ⟨_, _, e2⟩ := h.fat.last.block
  rcases ht with ht | ht | ht
  · exact h.ops.ne_blk h.fat.blk k hk ht
  · exact h.ops.ne_map e1 k hk ht
  · exact h.ops.ne_map e2 k hk ht
theorem ll (h : LIn w l b1 b2 ov lv S f L) : ∀ k, lv.ownBlock = some k → ¬ T3 l b1 b2 k := by
  intro k hk ht
  obtain ⟨_, _, e1⟩ := h.fat.live.block
  obtain ⟨_, _, e2⟩ := h.fat.last.block
  rcases ht with ht | ht | ht
  · exact h.lost.ne_blk h.fat.blk k hk ht
  · exact h.lost.ne_map e1 k hk ht
  · exact h.lost.ne_map e2 k hk ht
theorem st (h : LIn w l b1 b2 ov lv S f L) : ∀ k, T3 l b1 b2 k → ¬ S k := by
  rintro k (rfl | rfl | rfl)
  · exact h.fat.s0
  · exact h.fat.s1
  · exact h.fat.s2
theorem footlt (h : LIn w l b1 b2 ov lv S f L) : ∀ k, Foot l b1 b2 ov lv S k → k < w.heap.size := by
  rintro k ((rfl | rfl | rfl) | hk | hk | hk)
  · exact Blk.lt h.fat.blk
  · exact h.fat.live.lt
  · exact h.fat.last.lt
  · exact (h.ops.lt k hk).2
  · exact (h.lost.lt k hk).2
  · exact h.sb k hk
theorem oshape (h : LIn w l b1 b2 ov lv S f L) : ∃ A c, ov = .slice A L.ops.length c := h.ops.shape
theorem lshape (h : LIn w l b1 b2 ov lv S f L) : ∃ A c, lv = .slice A L.lost.length c := h.lost.shape
theorem fence (h : LIn w l b1 b2 ov lv S f L) (e : Int) : LIn (w.setCell ⟨l, 7, none⟩ (.int .i64 e)) l b1 b2 ov lv S f { L with fence := e } := by
  have hk : Kp (· = l) w (w.setCell ⟨l, 7, none⟩ (.int .i64 e)) := (Kp.refl (· = l) w).setCell (p := ⟨l, 7, none⟩) (fun _ => rfl) _
  have hs : ∀ k, S k → k < w.heap.size → ¬ k = l := fun k hk _ e => h.fat.s0 (e ▸ hk)
  exact ⟨⟨Blk.set h.fat.blk 7 _, h.fat.live.kept hk (fun e => h.fat.l1 e.symm) hs, h.fat.last.kept hk (fun e => h.fat.l2 e.symm) hs, h.fat.ne, h.fat.s0, h.fat.s1, h.fat.s2⟩,
    h.ops.kept hk hs (fun k hv e => h.ol k hv (.inl e)), h.lost.kept hk hs (fun k hv e => h.ll k hv (.inl e)), h.apart, h.so, h.sl, fun k hs => Nat.lt_of_lt_of_le (h.sb k hs) hk.size⟩
theorem settled (h : LIn w l b1 b2 ov lv S f L) (e : Int) : LIn (w.setCell ⟨l, 8, none⟩ (.int .i64 e)) l b1 b2 ov lv S f { L with settled := e } := by
  have hk : Kp (· = l) w (w.setCell ⟨l, 8, none⟩ (.int .i64 e)) := (Kp.refl (· = l) w).setCell (p := ⟨l, 8, none⟩) (fun _ => rfl) _
  have hs : ∀ k, S k → k < w.heap.size → ¬ k = l := fun k hk _ e => h.fat.s0 (e ▸ hk)
  exact ⟨⟨Blk.set h.fat.blk 8 _, h.fat.live.kept hk (fun e => h.fat.l1 e.symm) hs, h.fat.last.kept hk (fun e => h.fat.l2 e.symm) hs, h.fat.ne, h.fat.s0, h.fat.s1, h.fat.s2⟩,
    h.ops.kept hk hs (fun k hv e => h.ol k hv (.inl e)), h.lost.kept hk hs (fun k hv e => h.ll k hv (.inl e)), h.apart, h.so, h.sl, fun k hs => Nat.lt_of_lt_of_le (h.sb k hs) hk.size⟩
/-- l.ops = append(l.ops, ..) -/
theorem grown (h : LIn w l b1 b2 ov lv S f L) {S' : Nat → Prop} {m : List OpL} {v' : Value} (hs' : ∀ k, S' k → k < w.heap.size ∧ ¬ T3 l b1 b2 k ∧ ov.ownBlock ≠ some k ∧ lv.ownBlock ≠ some k) (hown : Own Rp.opl w' (fun k => S k ∨ S' k) 0 38 v' (L.ops ++ m)) (hg : w.grownBy w' ov.ownBlock)
    (hb : v'.ownBlock = ov.ownBlock ∨ v'.ownBlock = some w.heap.size) :
    LIn (w'.setCell ⟨l, 5, none⟩ v') l b1 b2 v' lv (fun k => S k ∨ S' k) f { L with ops := L.ops ++ m } ∧ Kp (fun k => k = l ∨ ov.ownBlock = some k) w (w'.setCell ⟨l, 5, none⟩ v') := by
  have hk1 : Kp (fun k => ov.ownBlock = some k) w w' := (Kp.refl _ _).grown hg (fun g hg _ => hg)
  have hk2 : Kp (· = l) w' (w'.setCell ⟨l, 5, none⟩ v') := (Kp.refl (· = l) w').setCell (p := ⟨l, 5, none⟩) (fun _ => rfl) _
  have hk : Kp (fun k => k = l ∨ ov.ownBlock = some k) w (w'.setCell ⟨l, 5, none⟩ v') := (hk1.mono (fun _ _ e => .inr e)).trans (hk2.mono (fun _ _ e => .inl e)) (fun _ _ e => e)
  have hlb : l < w.heap.size := Blk.lt h.fat.blk
  have hb1 := h.fat.live.lt
  have hb2 := h.fat.last.lt
  have hS : ∀ k, S k ∨ S' k → k < w.heap.size ∧ ¬ T3 l b1 b2 k ∧ ov.ownBlock ≠ some k ∧ lv.ownBlock ≠ some k := by
    rintro k (hk | hk)
    · exact ⟨h.sb k hk, fun ht => h.st k ht hk, fun e => h.so k e hk, fun e => h.sl k e hk⟩
    · exact hs' k hk
  have hob : ∀ k, ov.ownBlock = some k → k ≠ l := fun k hk e => h.ol k hk (.inl e)
  have hfat : FAt w' l [ov, lv, .int .i64 L.fence, .int .i64 L.settled, .int .i64 L.quota, .int .i64 L.room] b1 b2 (fun k => S k ∨ S' k) f :=
    (h.fat.kept hk1 (fun e => h.ol l e (.inl rfl)) (fun e => h.ol b1 e (.inr (.inl rfl))) (fun e => h.ol b2 e (.inr (.inr rfl))) (fun k hs _ e => h.so k e hs)).more (fun _ hk => .inl hk) (fun e => (hS _ e).2.1 (.inl rfl)) (fun e => (hS _ e).2.1 (.inr (.inl rfl))) (fun e => (hS _ e).2.1 (.inr (.inr rfl)))
  have hs2 : ∀ k, S k ∨ S' k → k < w'.heap.size → ¬ k = l := fun k hk _ e => (hS k hk).2.1 (.inl e)
  have hvb : ∀ k, v'.ownBlock = some k → ov.ownBlock = some k ∨ k = w.heap.size := by
    intro k hk
    rcases hb with e | e
    · exact .inl (e ▸ hk)
    · rw [e] at hk; injection hk with hk; exact .inr hk.symm
  refine ⟨⟨⟨Blk.set hfat.blk 5 _, hfat.live.kept hk2 (fun e => hfat.l1 e.symm) hs2, hfat.last.kept hk2 (fun e => hfat.l2 e.symm) hs2, hfat.ne, hfat.s0, hfat.s1, hfat.s2⟩,
    hown.kept hk2 hs2 (fun k hv e => ?_), ((h.lost.kept hk1 (fun k hs _ e => h.so k e hs) (fun k hv e => h.apart k e hv)).mono (Nat.le_refl _) (fun _ hk => .inl hk)).kept hk2 hs2 (fun k hv e => h.ll k hv (.inl e)), fun k hv hl => ?_, fun k hv hs => ?_, fun k hl hs => (hS k hs).2.2.2 hl, fun k hs => ?_⟩, hk⟩
  · rcases hvb k hv with e2 | e2
    · exact hob k e2 e
    · omega
  · rcases hvb k hv with e2 | e2
    · exact h.apart k e2 hl
    · have := (h.lost.lt k hl).2; omega
  · rcases hvb k hv with e2 | e2
    · exact (hS k hs).2.2.1 e2
    · have := (hS k hs).1; omega
  · have := (hS k hs).1
    have := hk.size
    omega
/-- fold.take has gone on by so many -/
theorem took (h : LIn w l b1 b2 ov lv S f L) {f' : FV} (hf : FAt w' l [ov, lv, .int .i64 L.fence, .int .i64 L.settled, .int .i64 L.quota, .int .i64 L.room] b1 b2 S f') (hk : Kp (T3 l b1 b2) w w') : LIn w' l b1 b2 ov lv S f' L :=
  ⟨hf, h.ops.kept hk (fun k hs _ ht => h.st k ht hs) h.ol, h.lost.kept hk (fun k hs _ ht => h.st k ht hs) h.ll, h.apart, h.so, h.sl, fun k hs => Nat.lt_of_lt_of_le (h.sb k hs) hk.size⟩
end LIn
namespace LAt
variable {w w' : World} {l : Nat} {L : LV} {F T : Nat → Prop}
theorem kept (h : LAt w l L F) (hk : Kp T w w') (hf : ∀ k, F k → ¬ T k) : LAt w' l L F := by
  obtain ⟨b1, b2, ov, lv, S, h1, h2⟩ := h
  exact ⟨b1, b2, ov, lv, S, h1.kept hk (fun k hk => hf k ((h2 k).2 hk)), h2⟩
theorem keptNo (h : LAt w l L F) (hk : Kp No w w') : LAt w' l L F := h.kept hk (fun _ _ x => x)
end LAt
set_option maxRecDepth 100000 in
set_option maxHeartbeats 1000000 in
/-- (*Ledger).has -/
theorem l_has (n e : Int) (l b1 b2 : Nat) (ov lv : Value) (S : Nat → Prop) (f : FV) (L : LV) (w : World) (h : LIn w l b1 b2 ov lv S f L) (hn : 0 ≤ n) (hl : L.ops.length ≤ 1000000) :
    Calls Try.prog 91 #[.pointer (some ⟨l, 0, none⟩), .agg #[.int .i64 n, .int .i64 e]] w fun x w' => x = .returned (.bool (hasL n e L)) ∧ Kp No w w' := by
  obtain ⟨A, c, hov⟩ := h.oshape
  subst hov
  have HO := Lib.hid h.ops
  have hwa : Kp No w (w.alloc (.cells #[.int .i64 n, .int .i64 e] 54)) := (Kp.refl _ _).alloc _
  have k5 : w.cell? ⟨l, 5, none⟩ = some (.slice A L.ops.length c) := Blk.cell h.fat.blk rfl
  have k5a : (w.alloc (.cells #[.int .i64 n, .int .i64 e] 54)).cell? ⟨l, 5, none⟩ = some (.slice A L.ops.length c) := (hwa.cell (lt_of_cell k5) (fun x => x)).trans k5
  obtain ⟨B, hB⟩ : ∃ B, hasL n e L = B := ⟨_, rfl⟩
  rw [hB]
  have HB := Lib.hid hB
  have hb : hasL n e L = B := hB
  unfold hasL at hb
  clear h hB k5 hwa
  by_cases hn0 : n = 0
  · subst hn0
    have HB : Hid (true = B) := Lib.hid (by rw [← hb]; rfl)
    clear hb
    go_enter Try.func91, Try.ntmps91
    go_wp2_with fail
    go_quiet (fail)
    go_wp2_with fail
    go_ret
    exact ⟨by rw [← HB.out]; rfl, ((Kp.refl _ _).alloc _).drewN _⟩
  have hn0b : (n == 0) = false := beq_eq_false_iff_ne.2 hn0
  rw [hn0b, Bool.false_or] at hb
  by_cases hle : n ≤ (L.ops.length : Int)
  · rw [decide_eq_true hle, Bool.true_and] at hb
    obtain ⟨k, hk⟩ : ∃ k : Nat, n - 1 = k := ⟨(n - 1).toNat, by omega⟩
    have hkl : k < L.ops.length := by omega
    obtain ⟨o, ho⟩ : ∃ o, L.ops[k]? = some o := ⟨_, List.getElem?_eq_getElem hkl⟩
    unfold epochAt at hb
    rw [hk, Int.toNat_natCast, ho] at hb
    have hb : (o.epoch == e) = B := hb
    obtain ⟨g, A', c', rfl, _, _, hcell, _, _, _⟩ := Own.at_opl HO.out ho
    have y1 : w.cell? ⟨g, k * 9 + 1, none⟩ = some (.int .i64 o.epoch) := hcell 1 _ rfl
    have hwa : Kp No w (w.alloc (.cells #[.int .i64 n, .int .i64 e] 54)) := (Kp.refl _ _).alloc _
    have y1a : (w.alloc (.cells #[.int .i64 n, .int .i64 e] 54)).cell? ⟨g, k * 9 + 1, none⟩ = some (.int .i64 o.epoch) := (hwa.cell (lt_of_cell y1) (fun x => x)).trans y1
    obtain ⟨oe, hoe⟩ : ∃ oe, o.epoch = oe := ⟨_, rfl⟩
    rw [hoe] at y1a hb
    obtain rfl : n = (k : Int) + 1 := by omega
    have HB : Hid ((oe == e) = B) := Lib.hid hb
    have hkk : (k : Int) + 1 - 1 = k := by omega
    have hk80 : k ≤ 1000000 := by omega
    have hnn : ¬ ((k : Int) + 1 = 0) := by omega
    clear hb ho hcell y1 hwa hoe hk hn0
    go_enter Try.func91, Try.ntmps91
    go_wp2_with fail
    go_quiet (fail)
    go_wp2_with fail
    go_ret
    exact ⟨by rw [← HB.out]; rfl, ((Kp.refl _ _).alloc _).drewN _⟩
  · rw [decide_eq_false hle, Bool.false_and] at hb
    have HB : Hid (false = B) := Lib.hid hb
    have hled : decide (n ≤ (L.ops.length : Int)) = false := decide_eq_false hle
    clear hb hle
    go_enter Try.func91, Try.ntmps91
    go_wp2_with fail
    go_quiet (fail)
    go_wp2_with fail
    go_ret
    exact ⟨by rw [← HB.out]; rfl, ((Kp.refl _ _).alloc _).drewN _⟩
end Go.Proofs.Ytbncblnchcmgbaa
