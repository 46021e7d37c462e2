/-
  A ledger, plainly.
-/
import Derived.Test.YtbncblnchcmgbaaFold
import Derived.Test.YtbncblnchcmgbaaDeed7
namespace Go.Proofs.Ytbncblnchcmgbaa
open Go.RowKit Go.ChangeShapes Go.WideShapes Go.ChangeAt

structure LV where
  ops : List OpL
  lost : List OpL
  fence : Int
  settled : Int
  quota : Int
  room : Int
/-- what comes of its operations -/
def LV.fold (L : LV) : FV := FV.fresh.take L.ops
/-- an answer: its error, its place -/
abbrev Done3 := Int × Int × Int
def failD (e : Int) : Done3 := (e, 0, 0)
def doneV (d : Done3) : Value := .agg #[.int .i64 d.1, .int .i64 d.2.1, .int .i64 d.2.2]
def newL (quota room : Int) : LV := ⟨[], [], 0, 0, quota, room⟩
def putL (o : OpL) (e s : Int) (L : LV) : Done3 × LV := ((0, L.ops.length + 1, e), { L with ops := L.ops ++ [o.placed (L.ops.length + 1) e s] })
def reignOp : OpL := ⟨0, 0, 3, 0, 0, 0, ByteArray.empty, 0, []⟩
def reignL (c : CmdL) (L : LV) : Done3 × LV :=
  if c.epoch ≤ L.fence then (failD 120, L) else if 80 ≤ (L.ops.length : Int) then (failD 125, L) else putL reignOp c.epoch c.site { L with fence := c.epoch }
def holdsL (e s : Int) (L : LV) : Prop := e = L.fence ∧ L.fold.hE = e ∧ L.fold.hS = s
instance (e s : Int) (L : LV) : Decidable (holdsL e s L) := by unfold holdsL; exact inferInstance
def liveL (n : ByteArray) (L : LV) : Bool := (mget n L.fold.live).isSome
def doNew (c : CmdL) (L : LV) : Done3 × LV :=
  if c.op.kind = 1 ∧ liveL c.op.name L = true then (failD 122, L)
  else if c.op.kind = 1 ∧ L.quota < L.fold.used + c.op.size then (failD 102, L)
  else if c.op.kind = 2 ∧ liveL c.op.name L = false then (failD 123, L)
  else if L.room ≤ (L.ops.length : Int) then (failD 125, L)
  else putL c.op c.epoch c.site L
def doL (c : CmdL) (L : LV) : Done3 × LV :=
  if holdsL c.epoch c.site L then
    match mget c.op.client L.fold.lastOf with
    | some was => if c.op.seq ≤ was.seq then (if c.op.seq < was.seq then failD 124 else (0, was.n, was.epoch), L) else doNew c L
    | none => doNew c L
  else (failD 120, L)
def epochAt (n : Int) (L : LV) (e : Int) : Bool := match L.ops[(n - 1).toNat]? with
  | some o => o.epoch == e
  | none => false
def hasL (n e : Int) (L : LV) : Bool := (n == 0) || (decide (n ≤ (L.ops.length : Int)) && epochAt n L e)
def markL (c : CmdL) (L : LV) : Done3 × LV :=
  if holdsL c.epoch c.site L then
    if hasL c.after c.since L = true then ((0, c.after, c.since), { L with settled := max L.settled c.after }) else (failD 121, L)
  else (failD 120, L)
def OpL.stripped (o : OpL) : OpL := { o with hashes := [] }
def partL (n : Nat) (L : LV) : LV :=
  if L.ops.length ≤ n then L else { L with lost := L.lost ++ (L.ops.drop n).map OpL.stripped, settled := min L.settled n, ops := L.ops.take n }
/-- how many of these it has, from the first on -/
def hadL (L : LV) : List OpL → Nat
  | [] => 0
  | o :: t => if hasL o.n o.epoch L = true then hadL L t + 1 else 0
def lastAt (c : CmdL) : Int × Int := match c.ops.getLast? with
  | some o => (o.n, o.epoch)
  | none => (c.after, c.since)
def siteAt (n : Int) (L : LV) : Option Int := (L.ops[(n - 2).toNat]?).map (·.site)
def shipL (c : CmdL) (L : LV) : Done3 × LV :=
  if c.epoch < L.fence ∨ (c.epoch = L.fold.hE ∧ c.site ≠ L.fold.hS) then (failD 120, L)
  else
    let L1 := { L with fence := c.epoch }
    if hasL c.after c.since L1 = true then
      match c.ops.drop (hadL L1 c.ops) with
      | [] => ((0, lastAt c), { L1 with settled := max L1.settled (lastAt c).1 })
      | o :: rest =>
        if o.kind ≠ 3 ∧ siteAt o.n L1 ≠ some o.site then (failD 121, L1)
        else
          let L2 := partL (o.n - 1).toNat L1
          ((0, lastAt c), { L2 with ops := L2.ops ++ o :: rest, settled := max L2.settled (lastAt c).1 })
    else (failD 121, L1)
def lastL (L : LV) : Int × Int := match L.ops.getLast? with
  | some o => (o.n, o.epoch)
  | none => (0, 0)
def applyL (c : CmdL) (L : LV) : Done3 × LV :=
  if okC c = true then
    if c.kind = 1 then doL c L else if c.kind = 3 then shipL c L else if c.kind = 4 then reignL c L else if c.kind = 5 then markL c L else ((0, lastL L), L)
  else (failD 3, L)

/-- a ledger as it may be; B: a bound of what is lost -/
structure OkL (B : Nat) (L : LV) : Prop where
  row : rowGo 0 0 (-1) L.ops = true
  fence : ∀ o ∈ L.ops, o.epoch ≤ L.fence
  fence0 : 0 ≤ L.fence ∧ L.fence ≤ 16
  settled : 0 ≤ L.settled ∧ L.settled ≤ L.ops.length
  bare : ∀ o ∈ L.lost, o.hashes = []
  lost : L.lost.length ≤ B
  quota : 1 ≤ L.quota ∧ L.quota ≤ 65536
  room : 1 ≤ L.room ∧ L.room ≤ 64
theorem rowGo_at : ∀ {l : List OpL} {n e s : Int}, rowGo n e s l = true → ∀ (i : Nat) o, l[i]? = some o → okP o ∧ o.n = n + 1 + i
  | [], _, _, _, _, i, o, h => by simp at h
  | o1 :: t, n, e, s, h, 0, o, ho => by
    unfold rowGo at h
    rw [Bool.and_eq_true, decide_eq_true_iff] at h
    simp only [List.getElem?_cons_zero, Option.some.injEq] at ho
    subst ho
    exact ⟨h.1.1, by have := h.1.2.1; omega⟩
  | o1 :: t, n, e, s, h, i + 1, o, ho => by
    unfold rowGo at h
    rw [Bool.and_eq_true, decide_eq_true_iff] at h
    rw [List.getElem?_cons_succ] at ho
    obtain ⟨h1, h2⟩ := rowGo_at h.2 i o ho
    have := h.1.2.1
    exact ⟨h1, by omega⟩
theorem okP.size {o : OpL} (h : okP o) : 0 ≤ o.size ∧ o.size ≤ 512 := by
  rcases h.2 with ⟨_, _, h⟩ | ⟨_, _, h⟩ | ⟨_, h⟩
  · unfold okSheet at h
    rw [Bool.and_eq_true, decide_eq_true_iff] at h
    omega
  · have := h.1; omega
  · have := h.2.2.2.1; omega
theorem okP.hashes {o : OpL} (h : okP o) : o.hashes.length ≤ 8 := by
  rcases h.2 with ⟨_, _, h⟩ | ⟨_, _, h⟩ | ⟨_, h⟩
  · unfold okSheet at h
    rw [Bool.and_eq_true, decide_eq_true_iff] at h
    have := cnt_bounds o.size h.1.1 h.1.2.1
    omega
  · have := h.2; omega
  · have := h.2.2.2.2; omega
namespace OkL
variable {B : Nat} {L : LV}
theorem at_ (h : OkL B L) {i : Nat} {o : OpL} (ho : L.ops[i]? = some o) : okP o ∧ o.n = i + 1 := by
  obtain ⟨h1, h2⟩ := rowGo_at h.row i o ho
  exact ⟨h1, by omega⟩
theorem okOf (h : OkL B L) {o : OpL} (ho : o ∈ L.ops) : okP o := by
  obtain ⟨i, hi⟩ := List.getElem?_of_mem ho
  exact (h.at_ hi).1
theorem len (h : OkL B L) : L.ops.length ≤ 80 := by
  rcases Nat.eq_zero_or_pos L.ops.length with h0 | h0
  · omega
  · obtain ⟨h1, h2⟩ := h.at_ (i := L.ops.length - 1) (List.getElem?_eq_getElem (by omega))
    have := h1.1.2.1
    omega
theorem small (h : OkL B L) : ∀ o ∈ L.ops, o.kind = 1 → Small o.size := fun o ho _ => by
  have := (h.okOf ho).size
  unfold Small
  omega
theorem foldOk (h : OkL B L) : L.fold.Ok L.ops.length := by
  have := FV.fresh_ok.take L.ops h.small
  rw [Nat.zero_add] at this
  exact this
theorem hashes (h : OkL B L) : ∀ o ∈ L.ops, o.hashes.length ≤ 1000000 := fun o ho => by
  have := (h.okOf ho).hashes
  omega
theorem hashesLost (h : OkL B L) : ∀ o ∈ L.lost, o.hashes.length ≤ 1000000 := fun o ho => by
  rw [h.bare o ho]; simp
end OkL
end Go.Proofs.Ytbncblnchcmgbaa
