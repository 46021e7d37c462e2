/-
  A model (model.Model) plainly, and in memory.
-/
import Derived.Test.YtbncblnchcmgbaaModB
import Derived.Test.YtbncblnchcmgbaaDeed3
import Derived.Test.YtbncblnchcmgbaaMod1
import Derived.Test.YtbncblnchcmgbaaFold
import Derived.Test.YtbncblnchcmgbaaLed1
import Derived.Test.YtbncblnchcmgbaaLit1
namespace Go.Proofs.Ytbncblnchcmgbaa
open Go.RowKit Go.ChangeShapes Go.WideShapes Go.ChangeAt

structure AskL where
  kind : Int
  client : Int
  seq : Int
  name : ByteArray
  data : ByteArray
  mode : Int
  lag : Int
namespace AskL
def cells (a : AskL) : List Value := [.int .i64 a.kind, .int .i64 a.client, .int .i64 a.seq, .string a.name, .string a.data, .int .i64 a.mode, .int .i64 a.lag]
def nums (a : AskL) : Prop := I64 a.kind ∧ I64 a.client ∧ I64 a.seq ∧ a.name.size ≤ maxLen ∧ a.data.size ≤ maxLen ∧ I64 a.mode ∧ I64 a.lag
end AskL
def Rp.ask : Rp AskL where
  size := 7
  R _ _ cs a := cs = a.cells ∧ a.nums
  μ a := a.name.size + a.data.size + 1
  pos := by omega
  len := by rintro w S cs a ⟨rfl, _⟩; rfl
  keep := by
    rintro w w' S S' cs a hs hk ⟨rfl, h⟩
    exact ⟨rfl, h⟩
  bnd := by
    rintro w S cs a ⟨rfl, h⟩
    exact ⟨rfl, h⟩
structure MV where
  lines : List ((Int × Int) × LineL)
  asks : List AskL
def clash (ls : List ((Int × Int) × LineL)) (l : LineL) : Bool := match mget l.place ls with
  | none => false
  | some was => !(decide ((was.an, was.ae) = (l.an, l.ae)) && decide (EqP was.op l.op))
def putAll (ls : List ((Int × Int) × LineL)) (m : List LineL) : List ((Int × Int) × LineL) := m.foldl (fun ls l => mput l.place l ls) ls
theorem putAll_snoc (ls : List ((Int × Int) × LineL)) (m : List LineL) (l : LineL) : putAll ls (m ++ [l]) = mput l.place l (putAll ls m) := by simp [putAll, List.foldl_append]
def seeL (ops : List OpL) (M : MV) : Int × MV :=
  if rowB 0 0 ops = false then (3, M)
  else if (linedL (0, 0) ops).any (clash M.lines) = true then (200, M)
  else (0, { M with lines := putAll M.lines (linedL (0, 0) ops) })
structure MIn (w : World) (m b : Nat) (av : Value) (S : Nat → Prop) (M : MV) : Prop where
  blk : Blk w m 113 [.map (some b), av]
  map : MapRp Rp.line w S b spotV M.lines
  ask : Own Rp.ask w No 0 52 av M.asks
  mb : m ≠ b
  sm : ¬ S m
  sb : ¬ S b
  am : av.ownBlock ≠ some m
  ab : av.ownBlock ≠ some b
  sa : ∀ k, S k → av.ownBlock ≠ some k
  hi : ∀ k, S k → k < w.heap.size
def MFoot (m b : Nat) (av : Value) (S : Nat → Prop) (k : Nat) : Prop := k = m ∨ k = b ∨ av.ownBlock = some k ∨ S k
def MAt (w : World) (m : Nat) (M : MV) (F : Nat → Prop) : Prop := ∃ b av S, MIn w m b av S M ∧ ∀ k, F k ↔ MFoot m b av S k
theorem MapRp.bnd {κ α : Type} [DecidableEq κ] {E : Rp α} {w : World} {S : Nat → Prop} {b : Nat} {enc : κ → Value} {l : List (κ × α)} (h : MapRp E w S b enc l) : MapRp E w (fun k => S k ∧ k < w.heap.size) b enc l := by
  obtain ⟨lv, h1, h2, h3⟩ := h
  refine ⟨lv, h1, h2, fun k a ha => ?_⟩
  obtain ⟨cs, h4, h5⟩ := h3 k a ha
  exact ⟨cs, h4, E.bnd h5⟩
namespace MIn
variable {w w' : World} {m b : Nat} {av : Value} {S T : Nat → Prop} {M : MV}
theorem kept (h : MIn w m b av S M) (hk : Kp T w w') (hT : ∀ k, MFoot m b av S k → ¬ T k) : MIn w' m b av S M :=
  ⟨h.blk.kept hk (hT m (.inl rfl)), h.map.kept hk (hT b (.inr (.inl rfl))) (fun k hs _ => hT k (.inr (.inr (.inr hs)))), h.ask.kept hk (fun _ hs _ _ => hs) (fun k hv => hT k (.inr (.inr (.inl hv)))), h.mb, h.sm, h.sb, h.am, h.ab, h.sa, fun k hs => Nat.lt_of_lt_of_le (h.hi k hs) hk.size⟩
theorem lt (h : MIn w m b av S M) {k : Nat} (hk : MFoot m b av S k) : k < w.heap.size := by
  rcases hk with rfl | rfl | hk | hk
  · exact Blk.lt h.blk
  · exact h.map.lt
  · exact (h.ask.lt k hk).2
  · exact h.hi k hk
end MIn
namespace MAt
variable {w w' : World} {m : Nat} {M : MV} {F T : Nat → Prop}
theorem kept (h : MAt w m M F) (hk : Kp T w w') (hT : ∀ k, F k → ¬ T k) : MAt w' m M F := by
  obtain ⟨b, av, S, h1, h2⟩ := h
  exact ⟨b, av, S, h1.kept hk (fun k hf => hT k ((h2 k).2 hf)), h2⟩
theorem keptNo (h : MAt w m M F) (hk : Kp No w w') : MAt w' m M F := h.kept hk (fun _ _ x => x)
theorem lt (h : MAt w m M F) {k : Nat} (hk : F k) : k < w.heap.size := by
  obtain ⟨b, av, S, h1, h2⟩ := h
  exact h1.lt ((h2 k).1 hk)
end MAt
/-- what a model may hold -/
structure OkM (M : MV) : Prop where
  key : ∀ p l, mget p M.lines = some l → p = l.place
  low : ∀ p l, mget p M.lines = some l → 1 ≤ p.1 ∧ p.1 ≤ 1000000
  ahead : ∀ p l, mget p M.lines = some l → l.an = p.1 - 1
  hashes : ∀ p l, mget p M.lines = some l → l.op.hashes.length ≤ 1000000
end Go.Proofs.Ytbncblnchcmgbaa
