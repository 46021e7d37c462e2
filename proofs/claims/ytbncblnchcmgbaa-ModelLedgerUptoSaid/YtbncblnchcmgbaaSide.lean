/-
  A ledger, and blocks beside it.
-/
import Derived.Test.YtbncblnchcmgbaaAppl
import Derived.Test.YtbncblnchcmgbaaLedQ
import Derived.Test.YtbncblnchcmgbaaLit1
namespace Go.Proofs.Ytbncblnchcmgbaa
open Go.RowKit Go.ChangeShapes Go.WideShapes Go.ChangeAt

/-- what the call made since w0: a ledger, and blocks beside it -/
structure Side (w0 w : World) (l : Nat) (L : LV) (bs : List (Nat × TypeId × List Value)) : Prop where
  ex : ∃ F, LAt w l L F ∧ (∀ k, F k → w0.heap.size ≤ k) ∧ ∀ b ∈ bs, ¬ F b.1
  blk : ∀ b ∈ bs, Blk w b.1 b.2.1 b.2.2
  new : ∀ b ∈ bs, w0.heap.size ≤ b.1
  nd : (bs.map (·.1)).Nodup
  kp : Kp No w0 w
/-- a slice literal of one command -/
theorem run_lit_cmd (w : World) (c : CmdL) (hv ov : Value) : (Instr.buildSlice 27 1 #[(0, cmdV c hv ov)]).run Try.prog w = .ok (.slice (some ⟨w.heap.size, 0, none⟩) 1 1) (w.alloc (.cells (cmdC c hv ov).toArray 44)) := by
  unfold cmdV cmdC
  go_simp
namespace Side
variable {w0 w w' : World} {l : Nat} {L : LV} {bs pre post : List (Nat × TypeId × List Value)} {x : Nat} {T : TypeId} {cs : List Value}
theorem keptNo (h : Side w0 w l L bs) (hk : Kp No w w') : Side w0 w' l L bs := by
  obtain ⟨F, h1, h2, h3⟩ := h.ex
  exact ⟨⟨F, h1.keptNo hk, h2, h3⟩, fun b hb => (h.blk b hb).kept hk (fun x => x), h.new, h.nd, h.kp.trans' hk⟩
/-- a block that a call made that turned nothing -/
theorem grew (h : Side w0 w l L bs) (hk : Kp No w w') (hb : Blk w' x T cs) (hx : w.heap.size ≤ x) : Side w0 w' l L ((x, T, cs) :: bs) := by
  obtain ⟨F, h1, h2, h3⟩ := h.ex
  refine ⟨⟨F, h1.keptNo hk, h2, fun b hb' => ?_⟩, fun b hb' => ?_, fun b hb' => ?_, ?_, h.kp.trans' hk⟩
  · rcases List.mem_cons.1 hb' with rfl | hb'
    · intro hf; have := h1.lt _ hf; simp only at this; omega
    · exact h3 b hb'
  · rcases List.mem_cons.1 hb' with rfl | hb'
    · exact hb
    · exact (h.blk b hb').kept hk (fun x => x)
  · rcases List.mem_cons.1 hb' with rfl | hb'
    · exact Nat.le_trans h.kp.size hx
    · exact h.new b hb'
  · rw [List.map_cons, List.nodup_cons]
    refine ⟨fun hm => ?_, h.nd⟩
    obtain ⟨b, hb', e⟩ := List.mem_map.1 hm
    have := Blk.lt (h.blk b hb')
    simp only at e
    omega
theorem alloc (h : Side w0 w l L bs) (cs : List Value) (T : TypeId) : Side w0 (w.alloc (.cells cs.toArray T)) l L ((w.heap.size, T, cs) :: bs) := by
  obtain ⟨F, h1, h2, h3⟩ := h.ex
  have hk : Kp No w (w.alloc (.cells cs.toArray T)) := (Kp.refl _ _).alloc _
  refine ⟨⟨F, h1.keptNo hk, h2, fun b hb => ?_⟩, fun b hb => ?_, fun b hb => ?_, ?_, h.kp.trans' hk⟩
  · rcases List.mem_cons.1 hb with rfl | hb
    · intro hf; have := h1.lt _ hf; simp only at this; omega
    · exact h3 b hb
  · rcases List.mem_cons.1 hb with rfl | hb
    · exact Blk.new w _ _
    · exact (h.blk b hb).kept hk (fun x => x)
  · rcases List.mem_cons.1 hb with rfl | hb
    · exact h.kp.size
    · exact h.new b hb
  · rw [List.map_cons, List.nodup_cons]
    refine ⟨fun hm => ?_, h.nd⟩
    obtain ⟨b, hb, e⟩ := List.mem_map.1 hm
    have := Blk.lt (h.blk b hb)
    simp only at e
    omega
theorem drew (h : Side w0 w l L bs) : Side w0 w.drew l L bs := h.keptNo (Kp.refl _ _).drew
/-- a block is turned -/
theorem turn (h : Side w0 w l L (pre ++ (x, T, cs) :: post)) {cs' : List Value} (hk : Kp (· = x) w w') (hb : Blk w' x T cs') : Side w0 w' l L (pre ++ (x, T, cs') :: post) := by
  obtain ⟨F, h1, h2, h3⟩ := h.ex
  have hxF : ¬ F x := h3 (x, T, cs) (by simp)
  have hne : ∀ b, b ∈ pre ∨ b ∈ post → b.1 ≠ x := by
    have hn := h.nd
    rw [List.map_append, List.map_cons, List.nodup_append] at hn
    obtain ⟨_, hn2, hn3⟩ := hn
    rw [List.nodup_cons] at hn2
    rintro b (hb | hb) e
    · exact hn3 b.1 (List.mem_map.2 ⟨b, hb, rfl⟩) x List.mem_cons_self e
    · exact hn2.1 (List.mem_map.2 ⟨b, hb, e⟩)
  have hin : ∀ b, b ∈ pre ∨ b ∈ post → b ∈ pre ++ (x, T, cs) :: post := fun b hb => by
    rcases hb with hb | hb
    · exact List.mem_append.2 (.inl hb)
    · exact List.mem_append.2 (.inr (List.mem_cons_of_mem _ hb))
  have hsplit : ∀ b, b ∈ pre ++ (x, T, cs') :: post → b = (x, T, cs') ∨ b ∈ pre ∨ b ∈ post := fun b hb => by
    rcases List.mem_append.1 hb with hb | hb
    · exact .inr (.inl hb)
    · rcases List.mem_cons.1 hb with hb | hb
      · exact .inl hb
      · exact .inr (.inr hb)
  refine ⟨⟨F, h1.kept hk (fun k hk e => hxF (e ▸ hk)), h2, fun b hm => ?_⟩, fun b hm => ?_, fun b hb => ?_, ?_, h.kp.trans hk (fun i hi e => ?_)⟩
  · rcases hsplit b hm with rfl | hm
    · exact hxF
    · exact h3 b (hin b hm)
  · rcases hsplit b hm with rfl | hm
    · exact hb
    · exact (h.blk b (hin b hm)).kept hk (hne b hm)
  · rcases hsplit b hb with rfl | hb
    · exact h.new (x, T, cs) (by simp)
    · exact h.new b (hin b hb)
  · have hn := h.nd
    rw [List.map_append, List.map_cons] at hn ⊢
    exact hn
  · have := h.new (x, T, cs) (by simp)
    simp only at this
    omega
theorem set (h : Side w0 w l L (pre ++ (x, T, cs) :: post)) (j : Nat) (v : Value) : Side w0 (w.setCell ⟨x, j, none⟩ v) l L (pre ++ (x, T, cs.set j v) :: post) :=
  h.turn ((Kp.refl (· = x) w).setCell (p := ⟨x, j, none⟩) (fun _ => rfl) _) (Blk.set (h.blk (x, T, cs) (by simp)) j v)
/-- an answer is stored -/
theorem store {a b c : Value} (h : Side w0 w l L (pre ++ (x, 95, [a, b, c]) :: post)) (p q r : Value) : Side w0 (((w.setCell ⟨x, 0, none⟩ p).setCell ⟨x, 1, none⟩ q).setCell ⟨x, 2, none⟩ r) l L (pre ++ (x, 95, [p, q, r]) :: post) :=
  h.turn (done_stored (h.blk (x, _, [a, b, c]) (by simp)) p q r).1 (done_stored (h.blk (x, _, [a, b, c]) (by simp)) p q r).2
theorem swap {a b : Nat × TypeId × List Value} (h : Side w0 w l L (a :: b :: bs)) : Side w0 w l L (b :: a :: bs) := by
  obtain ⟨F, h1, h2, h3⟩ := h.ex
  have hm : ∀ c, c ∈ b :: a :: bs → c ∈ a :: b :: bs := fun c hc => by
    simp only [List.mem_cons] at hc ⊢
    rcases hc with h | h | h
    · exact .inr (.inl h)
    · exact .inl h
    · exact .inr (.inr h)
  refine ⟨⟨F, h1, h2, fun c hc => h3 c (hm c hc)⟩, fun c hc => h.blk c (hm c hc), fun c hc => h.new c (hm c hc), ?_, h.kp⟩
  have hn := h.nd
  simp only [List.map_cons, List.nodup_cons, List.mem_cons, not_or] at hn ⊢
  exact ⟨⟨fun e => hn.1.1 e.symm, hn.2.1⟩, hn.1.2, hn.2.2⟩
/-- a command, resting on the blocks -/
theorem apply {B : Nat} (h : Side w0 w l L bs) (hok : OkL B L) (hB : B ≤ 800000) (c : CmdL) (A Bo : Option Addr) (ca cb : Nat) (SA : Nat → Prop) (hsa : ∀ k, SA k → k ∈ bs.map (·.1)) (hh : Rp.str.slice.R w SA [.slice A c.op.hashes.length ca] c.op.hashes)
    (ho : Rp.opl.slice.R w SA [.slice Bo c.ops.length cb] c.ops) (hsz : -9223372036854775808 ≤ c.op.size ∧ c.op.size < 9223372036854775808) (hll : c.op.hashes.length ≤ 1000000) (hol : c.ops.length ≤ 1000000) (hsm : ∀ o ∈ c.ops, o.hashes.length ≤ 1000000) :
    Calls Try.prog 40 #[.pointer (some ⟨l, 0, none⟩), cmdV c (.slice A c.op.hashes.length ca) (.slice Bo c.ops.length cb)] w fun x w' => x = .returned (doneV (applyL c L).1) ∧ Side w0 w' l (applyL c L).2 bs := by
  obtain ⟨F, h1, h2, h3⟩ := h.ex
  refine (a_apply c A Bo ca cb SA B l L F w h1 hok hB hh ho (fun k hk _ hF => ?_) hsz hll hol hsm).mono ?_
  · obtain ⟨b, hb, rfl⟩ := List.mem_map.1 (hsa k hk)
    exact h3 b hb hF
  rintro x w' ⟨rfl, F', ha, hu⟩
  refine ⟨rfl, ⟨F', ha, fun k hk => (hu.foot k hk).elim (h2 k) (fun hle => Nat.le_trans h.kp.size hle), fun b hb hF => ?_⟩, fun b hb => (h.blk b hb).kept hu.kp (h3 b hb), h.new, h.nd, h.kp.trans hu.kp (fun i hi e => ?_)⟩
  · rcases hu.foot b.1 hF with hf | hf
    · exact h3 b hb hf
    · have := Blk.lt (h.blk b hb); omega
  · have := h2 i e; omega
end Side
end Go.Proofs.Ytbncblnchcmgbaa
