/-
  Commands whose bulk is bounded; a ledger and blocks beside it: its commands out of new memory.
-/
import Derived.Test.YtbncblnchcmgbaaSide
import Derived.Test.YtbncblnchcmgbaaGrt12S
import Derived.Test.YtbncblnchcmgbaaLedR
namespace Go.Proofs.Ytbncblnchcmgbaa
open Go.RowKit Go.ChangeShapes Go.WideShapes Go.ChangeAt

theorem sumμ_memL {α : Type} {f : α → Nat} {a : α} : ∀ {l : List α}, a ∈ l → f a ≤ Rp.sumμ f l
  | b :: l, h => by
    unfold Rp.sumμ
    rw [List.map_cons, List.sum_cons]
    rcases List.mem_cons.1 h with rfl | h
    · omega
    · have := sumμ_memL (f := f) h
      unfold Rp.sumμ at this
      omega
theorem sumμ_lengthL {α : Type} {f : α → Nat} (hf : ∀ a, 1 ≤ f a) : ∀ l : List α, l.length ≤ Rp.sumμ f l
  | [] => Nat.zero_le _
  | b :: l => by
    have := sumμ_lengthL hf l
    have := hf b
    unfold Rp.sumμ at *
    rw [List.map_cons, List.sum_cons, List.length_cons]; omega
theorem strs_μ (l : List ByteArray) : l.length + 1 ≤ Rp.str.slice.μ l := by
  have := sumμ_lengthL (f := Rp.str.μ) (fun a => by show 1 ≤ a.size + 1; omega) l
  show _ ≤ 1 + Rp.sumμ Rp.str.μ l
  omega
theorem opl_μ (o : OpL) : o.hashes.length + 1 ≤ Rp.opl.μ o := by
  have := strs_μ o.hashes
  show _ ≤ o.name.size + Rp.str.slice.μ o.hashes
  omega
theorem cmd_μ (c : CmdL) : c.op.hashes.length + 1 ≤ Rp.cmd.μ c ∧ c.ops.length + 1 ≤ Rp.cmd.μ c ∧ ∀ o ∈ c.ops, o.hashes.length ≤ Rp.cmd.μ c := by
  have h1 := opl_μ c.op
  have h2 := sumμ_lengthL (f := Rp.opl.μ) (fun o => by have := opl_μ o; omega) c.ops
  have e : Rp.cmd.μ c = Rp.opl.μ c.op + (1 + Rp.sumμ Rp.opl.μ c.ops) := rfl
  refine ⟨by omega, by omega, fun o ho => ?_⟩
  have h3 := sumμ_memL (f := Rp.opl.μ) ho
  have h4 := opl_μ o
  omega
theorem cmd_small {c : CmdL} (h : Rp.cmd.μ c ≤ 1048576) : SmallC 1048576 1048576 c := by
  obtain ⟨h1, h2, h3⟩ := cmd_μ c
  exact ⟨by omega, by omega, fun o ho => by have := h3 o ho; omega⟩
theorem cmds_small {l : List CmdL} (h : Rp.cmd.slice.μ l ≤ 1048576) : ∀ c ∈ l, SmallC 1048576 1048576 c := fun c hc => by
  have e : Rp.cmd.slice.μ l = 1 + Rp.sumμ Rp.cmd.μ l := rfl
  have h3 := sumμ_memL (f := Rp.cmd.μ) hc
  exact cmd_small (by omega)
theorem Side.start1 {w0 w : World} {l x : Nat} {L : LV} {F : Nat → Prop} {T : TypeId} {cs : List Value} (h : LAt w l L F) (hF : ∀ k, F k → w0.heap.size ≤ k) (hk : Kp No w0 w) (hb : Blk w x T cs) (hx : w0.heap.size ≤ x) (hxF : ¬ F x) : Side w0 w l L [(x, T, cs)] :=
  ⟨⟨F, h, hF, fun b hm => by rw [List.mem_singleton.1 hm]; exact hxF⟩, fun b hm => by rw [List.mem_singleton.1 hm]; exact hb, fun b hm => by rw [List.mem_singleton.1 hm]; exact hx, by simp, hk⟩
/-- a command whose lists are new -/
theorem Side.applyNew {w0 w w' : World} {l : Nat} {L : LV} {bs : List (Nat × TypeId × List Value)} {B : Nat} (h : Side w0 w l L bs) (hk : Kp No w w') (hok : OkL B L) (hB : B ≤ 800000) (c : CmdL) (A Bo : Option Addr) (ca cb : Nat) (hh : Rp.str.slice.R w' (fun k => w.heap.size ≤ k) [.slice A c.op.hashes.length ca] c.op.hashes)
    (ho : Rp.opl.slice.R w' (fun k => w.heap.size ≤ k) [.slice Bo c.ops.length cb] c.ops) (hn : c.nums) (hs : SmallC 1000000 1000000 c) :
    Calls Try.prog 40 #[.pointer (some ⟨l, 0, none⟩), cmdV c (.slice A c.op.hashes.length ca) (.slice Bo c.ops.length cb)] w' fun x w2 => x = .returned (doneV (applyL c L).1) ∧ Side w0 w2 l (applyL c L).2 bs := by
  obtain ⟨F, h1, h2, h3⟩ := h.ex
  have hs' := h.keptNo hk
  refine (a_apply c A Bo ca cb _ B l L F w' (h1.keptNo hk) hok hB hh ho (fun k hk _ hF => by have := h1.lt k hF; omega) (bounds_I64 hn.2.2.2.1.2.2.2.2.2.2.2) hs.1 hs.2.1 hs.2.2).mono ?_
  rintro x w2 ⟨rfl, F', ha, hu⟩
  refine ⟨rfl, ⟨F', ha, fun k hk => (hu.foot k hk).elim (h2 k) (fun hle => Nat.le_trans hs'.kp.size hle), fun b hb hF => ?_⟩, fun b hb => (hs'.blk b hb).kept hu.kp (h3 b hb), h.new, h.nd, hs'.kp.trans hu.kp (fun i hi e => ?_)⟩
  · rcases hu.foot b.1 hF with hf | hf
    · exact h3 b hb hf
    · have := Blk.lt (hs'.blk b hb); omega
  · have := h2 i e; omega
theorem SmallC.mono {m k m' k' : Nat} {c : CmdL} (h : SmallC m k c) (hm : m ≤ m') (hk : k ≤ k') : SmallC m' k' c := ⟨by have := h.1; omega, by have := h.2.1; omega, fun o ho => by have := h.2.2 o ho; omega⟩
theorem Side.begin_ {w0 w : World} {l : Nat} {L : LV} {F : Nat → Prop} (h : LAt w l L F) (hF : ∀ k, F k → w0.heap.size ≤ k) (hk : Kp No w0 w) : Side w0 w l L [] :=
  ⟨⟨F, h, hF, fun _ hb => absurd hb List.not_mem_nil⟩, fun _ hb => absurd hb List.not_mem_nil, fun _ hb => absurd hb List.not_mem_nil, List.nodup_nil, hk⟩
end Go.Proofs.Ytbncblnchcmgbaa
