/-
  ledger: what comes of operations (fold), in memory; fold.take.
-/
import Derived.Test.YtbncblnchcmgbaaMapR
import Derived.Test.YtbncblnchcmgbaaOwnL
import Derived.Test.YtbncblnchcmgbaaDeed3
namespace Go.Proofs.Ytbncblnchcmgbaa
open Go.RowKit Go.ChangeShapes Go.WideShapes Go.ChangeAt

abbrev Sheets := List (ByteArray × (Int × List ByteArray))
def sumS (l : Sheets) : Int := (l.map (·.2.1)).sum
/-- what comes of operations -/
structure FV where
  live : Sheets
  lastOf : List (Int × OpL)
  hE : Int
  hS : Int
namespace FV
def used (f : FV) : Int := sumS f.live
def fresh : FV := ⟨[], [], 0, 0⟩
def take1 (f : FV) (o : OpL) : FV :=
  if o.kind = 3 then { f with hE := o.epoch, hS := o.site }
  else { f with live := if o.kind = 1 then mput o.name (o.size, o.hashes) (mdel o.name f.live) else mdel o.name f.live, lastOf := mput o.client o f.lastOf }
def take (f : FV) (l : List OpL) : FV := l.foldl take1 f
end FV
def sizeAt (k : ByteArray) (l : Sheets) : Int := ((mget k l).map (·.1)).getD 0
theorem sumS_del (k : ByteArray) : ∀ l : Sheets, sumS (mdel k l) = sumS l - sizeAt k l
  | [] => rfl
  | (k', v) :: l => by
    have ih := sumS_del k l
    unfold sumS sizeAt at ih ⊢
    unfold mdel mget
    split
    · simp; omega
    · simp only [List.map_cons, List.sum_cons, ih]; omega
theorem sumS_put (k : ByteArray) (v : Int × List ByteArray) : ∀ l : Sheets, mget k l = none → sumS (mput k v l) = sumS l + v.1
  | [], _ => by simp [sumS, mput]
  | (k', v') :: l, h => by
    unfold mget at h
    split at h
    · cases h
    · rename_i hne
      have ih := sumS_put k v l h
      unfold sumS at ih ⊢
      unfold mput
      rw [if_neg hne]
      simp only [List.map_cons, List.sum_cons, ih]; omega
theorem len_mdel {κ ν : Type} [DecidableEq κ] (k : κ) : ∀ l : List (κ × ν), (mdel k l).length ≤ l.length
  | [] => Nat.le_refl _
  | (k', v) :: l => by
    unfold mdel
    split
    · simp
    · have := len_mdel k l; simp; omega
theorem len_mput {κ ν : Type} [DecidableEq κ] (k : κ) (u : ν) : ∀ l : List (κ × ν), (mput k u l).length ≤ l.length + 1
  | [] => by simp [mput]
  | (k', v) :: l => by
    unfold mput
    split
    · simp
    · have := len_mput k u l; simp; omega
theorem mem_mdel {κ ν : Type} [DecidableEq κ] (k : κ) (p : κ × ν) : ∀ l : List (κ × ν), p ∈ mdel k l → p ∈ l
  | [], h => h
  | (k', v) :: l, h => by
    unfold mdel at h
    split at h
    · exact List.mem_cons_of_mem _ h
    · rcases List.mem_cons.1 h with h | h
      · rw [h]; exact List.mem_cons_self
      · exact List.mem_cons_of_mem _ (mem_mdel k p l h)
theorem mem_mput {κ ν : Type} [DecidableEq κ] (k : κ) (u : ν) (p : κ × ν) : ∀ l : List (κ × ν), p ∈ mput k u l → p = (k, u) ∨ p ∈ l
  | [], h => by simpa [mput] using h
  | (k', v) :: l, h => by
    unfold mput at h
    split at h
    · rcases List.mem_cons.1 h with h | h
      · exact .inl h
      · exact .inr (List.mem_cons_of_mem _ h)
    · rcases List.mem_cons.1 h with h | h
      · exact .inr (by rw [h]; exact List.mem_cons_self)
      · rcases mem_mput k u p l h with h | h
        · exact .inl h
        · exact .inr (List.mem_cons_of_mem _ h)
theorem mem_of_mget {κ ν : Type} [DecidableEq κ] {k : κ} {v : ν} : ∀ {l : List (κ × ν)}, mget k l = some v → (k, v) ∈ l
  | (k', v') :: l, h => by
    unfold mget at h
    split at h
    · rename_i hk; injection h with h; subst hk h; exact List.mem_cons_self
    · exact List.mem_cons_of_mem _ (mem_of_mget h)

def Small (x : Int) : Prop := 0 ≤ x ∧ x ≤ 1073741824
/-- so much may be live -/
structure FV.Ok (f : FV) (n : Nat) : Prop where
  nodup : (f.live.map (·.1)).Nodup
  small : ∀ p ∈ f.live, Small p.2.1
  len : f.live.length ≤ n
theorem FV.fresh_ok : FV.fresh.Ok 0 := ⟨List.nodup_nil, by simp [FV.fresh], Nat.le_refl _⟩
theorem sum_small : ∀ l : Sheets, (∀ p ∈ l, Small p.2.1) → 0 ≤ sumS l ∧ sumS l ≤ 1073741824 * l.length
  | [], _ => by simp [sumS]
  | p :: l, h => by
    obtain ⟨h1, h2⟩ := sum_small l (fun q hq => h q (List.mem_cons_of_mem _ hq))
    obtain ⟨h3, h4⟩ := h p List.mem_cons_self
    unfold sumS at h1 h2 ⊢
    simp only [List.map_cons, List.sum_cons, List.length_cons]
    omega
namespace FV.Ok
variable {f : FV} {n : Nat}
theorem bound (h : f.Ok n) : 0 ≤ f.used ∧ f.used ≤ 1073741824 * n := by
  obtain ⟨h1, h2⟩ := sum_small f.live h.small
  have := h.len
  unfold FV.used
  omega
theorem sizeAt_small (h : f.Ok n) (k : ByteArray) : Small (sizeAt k f.live) := by
  unfold sizeAt
  cases hg : mget k f.live with
  | none => simp [Small]
  | some v => exact h.small _ (mem_of_mget hg)
theorem del (h : f.Ok n) (k : ByteArray) : (FV.mk (mdel k f.live) f.lastOf f.hE f.hS).Ok n :=
  ⟨nodup_mdel _ _ h.nodup, fun p hp => h.small p (mem_mdel _ _ _ hp), Nat.le_trans (len_mdel _ _) h.len⟩
theorem step (h : f.Ok n) (o : OpL) (hs : o.kind = 1 → Small o.size) : (f.take1 o).Ok (n + 1) := by
  unfold FV.take1
  split
  · exact ⟨h.nodup, h.small, Nat.le_succ_of_le h.len⟩
  · refine ⟨?_, fun p hp => ?_, ?_⟩
    · simp only
      split
      · exact nodup_mput _ _ _ (nodup_mdel _ _ h.nodup)
      · exact nodup_mdel _ _ h.nodup
    · simp only at hp
      split at hp
      · rename_i hk
        rcases mem_mput _ _ _ _ hp with hp | hp
        · rw [hp]; exact hs hk
        · exact h.small p (mem_mdel _ _ _ hp)
      · exact h.small p (mem_mdel _ _ _ hp)
    · have := len_mdel o.name f.live
      have := h.len
      simp only
      split
      · have := len_mput o.name (o.size, o.hashes) (mdel o.name f.live); omega
      · omega
theorem take (h : f.Ok n) : ∀ (l : List OpL), (∀ o ∈ l, o.kind = 1 → Small o.size) → (f.take l).Ok (n + l.length) := by
  intro l
  induction l generalizing f n with
  | nil => intro _; exact h
  | cons o l ih =>
    intro hs
    have := ih (h.step o (hs o List.mem_cons_self)) (fun x hx => hs x (List.mem_cons_of_mem _ hx))
    rw [show n + (o :: l).length = n + 1 + l.length by simp; omega]
    exact this
end FV.Ok
theorem FV.take_snoc (f : FV) (l : List OpL) (o : OpL) : f.take (l ++ [o]) = (f.take l).take1 o := by
  unfold FV.take; simp

/-- a block of a ledger (or of a fold), with its maps -/
structure FAt (w : World) (l : Nat) (rest : List Value) (b1 b2 : Nat) (S : Nat → Prop) (f : FV) : Prop where
  blk : Blk w l 106 ([.map (some b1), .int .i64 f.used, .map (some b2), .int .i64 f.hE, .int .i64 f.hS] ++ rest)
  live : MapRp Rp.sht w S b1 Value.string f.live
  last : MapRp Rp.opl w S b2 (Value.int .i64) f.lastOf
  ne : b1 ≠ b2
  s0 : ¬ S l
  s1 : ¬ S b1
  s2 : ¬ S b2
/-- a ledger's block and its maps -/
def T3 (l b1 b2 : Nat) : Nat → Prop := fun k => k = l ∨ k = b1 ∨ k = b2
theorem Blk.ne_map {w : World} {l b : Nat} {t : TypeId} {cs : List Value} {es : Array MapEntry} {clock : Nat} (h : Blk w l t cs) (hb : w.heap[b]? = some (.map es clock)) : l ≠ b := by
  rintro rfl
  unfold Blk at h
  rw [h] at hb
  cases hb
namespace FAt
variable {w w' : World} {l : Nat} {rest : List Value} {b1 b2 : Nat} {S T : Nat → Prop} {f : FV}
theorem l1 (h : FAt w l rest b1 b2 S f) : l ≠ b1 := by
  obtain ⟨_, _, hb⟩ := h.live.block
  exact Blk.ne_map h.blk hb
theorem l2 (h : FAt w l rest b1 b2 S f) : l ≠ b2 := by
  obtain ⟨_, _, hb⟩ := h.last.block
  exact Blk.ne_map h.blk hb
theorem kept (h : FAt w l rest b1 b2 S f) (hk : Kp T w w') (h0 : ¬ T l) (h1 : ¬ T b1) (h2 : ¬ T b2) (hs : ∀ k, S k → k < w.heap.size → ¬ T k) : FAt w' l rest b1 b2 S f :=
  ⟨h.blk.kept hk h0, h.live.kept hk h1 hs, h.last.kept hk h2 hs, h.ne, h.s0, h.s1, h.s2⟩
theorem keptNo (h : FAt w l rest b1 b2 S f) (hk : Kp No w w') : FAt w' l rest b1 b2 S f := h.kept hk (fun x => x) (fun x => x) (fun x => x) (fun _ _ _ x => x)
theorem more (h : FAt w l rest b1 b2 S f) (hs : ∀ k, S k → T k) (h0 : ¬ T l) (h1 : ¬ T b1) (h2 : ¬ T b2) : FAt w l rest b1 b2 T f :=
  ⟨h.blk, h.live.more hs, h.last.more hs, h.ne, h0, h1, h2⟩
theorem reign (h : FAt w l rest b1 b2 S f) (e s : Int) : FAt ((w.setCell ⟨l, 3, none⟩ (.int .i64 e)).setCell ⟨l, 4, none⟩ (.int .i64 s)) l rest b1 b2 S { f with hE := e, hS := s } := by
  have hk : Kp (· = l) w ((w.setCell ⟨l, 3, none⟩ (.int .i64 e)).setCell ⟨l, 4, none⟩ (.int .i64 s)) := ((Kp.refl (· = l) w).setCell (p := ⟨l, 3, none⟩) (fun _ => rfl) _).setCell (p := ⟨l, 4, none⟩) (fun _ => rfl) _
  exact ⟨Blk.set (Blk.set h.blk 3 _) 4 _, h.live.kept hk (fun e => h.l1 e.symm) (fun k hk _ e => h.s0 (e ▸ hk)), h.last.kept hk (fun e => h.l2 e.symm) (fun k hk _ e => h.s0 (e ▸ hk)), h.ne, h.s0, h.s1, h.s2⟩
end FAt
theorem key_name : KeyOk Try.prog 9 (κ := ByteArray) Value.string := KeyOk.string Try.underlying9
theorem key_cl : KeyOk Try.prog 3 (κ := Int) (Value.int .i64) := KeyOk.int Try.underlying3
theorem zero_sht (w : World) : (zeroValue 36).run Try.prog w = .ok (.agg #[.int .i64 0, .slice none 0 0]) w := by
  go_simp
theorem zero_op (w : World) : (zeroValue 38).run Try.prog w = .ok (.agg #[.int .i64 0, .int .i64 0, .int .i64 0, .int .i64 0, .int .i64 0, .int .i64 0, .string ByteArray.empty, .int .i64 0, .slice none 0 0]) w := by
  go_simp
  rfl
/-- f.live[n].Size -/
theorem FAt.size {w : World} {l : Nat} {rest : List Value} {b1 b2 : Nat} {S : Nat → Prop} {f : FV} (h : FAt w l rest b1 b2 S f) (n : ByteArray) :
    ∃ hv, (Instr.lookup 100 (.map (some b1)) (.string n) false).run Try.prog w = .ok (.agg #[.int .i64 (sizeAt n f.live), hv]) w := by
  cases hg : mget n f.live with
  | none =>
    have := (h.live.none_ok (P := Try.prog) key_name Try.underlying100 hg (zero_sht w)).2
    exact ⟨_, by rw [this]; unfold sizeAt; rw [hg]; rfl⟩
  | some v =>
    obtain ⟨cs, ⟨u, rfl, _⟩, _, hl⟩ := h.live.some_ok (P := Try.prog) key_name Try.underlying100 hg (zero_sht w)
    exact ⟨u, by rw [hl]; unfold sizeAt; rw [hg]; rfl⟩
/-- amid fold.take: one operation's box, what is used, live and last -/
structure TSt (l : Nat) (rest : List Value) (b1 b2 : Nat) (S : Nat → Prop) (base g c : Nat) (ops : List OpL) (x : Nat) (o : OpL) (v : Value) (hE hS : Int) (w : World) (us : Int) (live : Sheets) (last : List (Int × OpL)) : Prop where
  blk : Blk w l 106 ([.map (some b1), .int .i64 us, .map (some b2), .int .i64 hE, .int .i64 hS] ++ rest)
  live : MapRp Rp.sht w S b1 Value.string live
  last : MapRp Rp.opl w S b2 (Value.int .i64) last
  own : Own Rp.opl w S base 38 (.slice (some ⟨g, 0, none⟩) ops.length c) ops
  box : Blk w x 38 (o.cells v)
  rd : Rp.str.slice.R w S [v] o.hashes
  n12 : b1 ≠ b2
  n01 : l ≠ b1
  n02 : l ≠ b2
  gl : g ≠ l ∧ g ≠ b1 ∧ g ≠ b2
  xl : l ≠ x ∧ b1 ≠ x ∧ b2 ≠ x
  s0 : ¬ S l
  s1 : ¬ S b1
  s2 : ¬ S b2
namespace TSt
variable {l : Nat} {rest : List Value} {b1 b2 : Nat} {S : Nat → Prop} {base g c : Nat} {ops : List OpL} {x : Nat} {o : OpL} {v : Value} {hE hS : Int} {w w' : World} {us : Int} {live : Sheets} {last : List (Int × OpL)}
theorem used (h : TSt l rest b1 b2 S base g c ops x o v hE hS w us live last) (u : Int) : TSt l rest b1 b2 S base g c ops x o v hE hS (w.setCell ⟨l, 1, none⟩ (.int .i64 u)) u live last := by
  have hk : Kp (· = l) w (w.setCell ⟨l, 1, none⟩ (.int .i64 u)) := (Kp.refl (· = l) w).setCell (p := ⟨l, 1, none⟩) (fun _ => rfl) _
  have hs : ∀ k, S k → k < w.heap.size → ¬ k = l := fun k hk _ e => h.s0 (e ▸ hk)
  exact ⟨Blk.set h.blk 1 _, h.live.kept hk (fun e => h.n01 e.symm) hs, h.last.kept hk (fun e => h.n02 e.symm) hs, h.own.kept hk hs (fun k hk e => by
    have : g = k := by simpa [Value.ownBlock] using hk
    exact h.gl.1 (this.trans e)), h.box.kept hk (fun e => h.xl.1 e.symm), Rp.str.slice.kept h.rd hk hs, h.n12, h.n01, h.n02, h.gl, h.xl, h.s0, h.s1, h.s2⟩
theorem keptNo (h : TSt l rest b1 b2 S base g c ops x o v hE hS w us live last) (hk : Kp No w w') : TSt l rest b1 b2 S base g c ops x o v hE hS w' us live last :=
  ⟨h.blk.kept hk (fun x => x), h.live.keptNo hk, h.last.keptNo hk, h.own.keptNo hk, h.box.kept hk (fun x => x), Rp.str.slice.keptNo h.rd hk, h.n12, h.n01, h.n02, h.gl, h.xl, h.s0, h.s1, h.s2⟩
theorem drew (h : TSt l rest b1 b2 S base g c ops x o v hE hS w us live last) : TSt l rest b1 b2 S base g c ops x o v hE hS w.drew us live last := h.keptNo ((Kp.refl _ _).drew)
theorem setLive (h : TSt l rest b1 b2 S base g c ops x o v hE hS w us live last) {live' : Sheets} (hk : Kp (· = b1) w w') (hm : MapRp Rp.sht w' S b1 Value.string live') : TSt l rest b1 b2 S base g c ops x o v hE hS w' us live' last := by
  have hs : ∀ k, S k → k < w.heap.size → ¬ k = b1 := fun k hk _ e => h.s1 (e ▸ hk)
  exact ⟨h.blk.kept hk h.n01, hm, h.last.kept hk (fun e => h.n12 e.symm) hs, h.own.kept hk hs (fun k hk e => by
    have : g = k := by simpa [Value.ownBlock] using hk
    exact h.gl.2.1 (this.trans e)), h.box.kept hk (fun e => h.xl.2.1 e.symm), Rp.str.slice.kept h.rd hk hs, h.n12, h.n01, h.n02, h.gl, h.xl, h.s0, h.s1, h.s2⟩
theorem setLast (h : TSt l rest b1 b2 S base g c ops x o v hE hS w us live last) {last' : List (Int × OpL)} (hk : Kp (· = b2) w w') (hm : MapRp Rp.opl w' S b2 (Value.int .i64) last') : TSt l rest b1 b2 S base g c ops x o v hE hS w' us live last' := by
  have hs : ∀ k, S k → k < w.heap.size → ¬ k = b2 := fun k hk _ e => h.s2 (e ▸ hk)
  exact ⟨h.blk.kept hk h.n02, h.live.kept hk h.n12 hs, hm, h.own.kept hk hs (fun k hk e => by
    have : g = k := by simpa [Value.ownBlock] using hk
    exact h.gl.2.2 (this.trans e)), h.box.kept hk (fun e => h.xl.2.2 e.symm), Rp.str.slice.kept h.rd hk hs, h.n12, h.n01, h.n02, h.gl, h.xl, h.s0, h.s1, h.s2⟩
theorem fat (h : TSt l rest b1 b2 S base g c ops x o v hE hS w us live last) (hu : us = sumS live) : FAt w l rest b1 b2 S ⟨live, last, hE, hS⟩ :=
  ⟨by subst hu; exact h.blk, h.live, h.last, h.n12, h.s0, h.s1, h.s2⟩
/-- delete(f.live, o.Name) -/
theorem delete (h : TSt l rest b1 b2 S base g c ops x o v hE hS w us live last) (n : ByteArray) :
    ∃ w', (Builtin.delete_ #[100, 9] 0 #[.map (some b1), .string n]).run Try.prog w = .ok (.tuple #[]) w' ∧ TSt l rest b1 b2 S base g c ops x o v hE hS w' us (mdel n live) last ∧ Kp (· = b1) w w' := by
  obtain ⟨w', h1, h2, h3⟩ := h.live.delete (P := Try.prog) key_name Try.underlying100 h.s1 n 9 0
  exact ⟨w', h1, h.setLive h3 h2, h3⟩
/-- f.live[o.Name] = o.Sheet -/
theorem putLive (h : TSt l rest b1 b2 S base g c ops x o v hE hS w us live last) (hn : o.nums) (n : ByteArray) :
    ∃ w', (Instr.mapUpdate 100 (.map (some b1)) (.string n) (.agg #[.int .i64 o.size, v])).run Try.prog w = .ok () w' ∧ TSt l rest b1 b2 S base g c ops x o v hE hS w' us (mput n (o.size, o.hashes) live) last ∧ Kp (· = b1) w w' := by
  obtain ⟨w', h1, h2, h3⟩ := h.live.update (P := Try.prog) key_name Try.underlying100 h.s1 n (cs := [.int .i64 o.size, v]) (a := (o.size, o.hashes)) ⟨v, rfl, hn.2.2.2.2.2.2.2, h.rd⟩
  exact ⟨w', h1, h.setLive h3 h2, h3⟩
/-- f.lastOf[o.Client] = o -/
theorem putLast (h : TSt l rest b1 b2 S base g c ops x o v hE hS w us live last) (hn : o.nums) :
    ∃ w', (Instr.mapUpdate 101 (.map (some b2)) (.int .i64 o.client) (.agg (o.cells v).toArray)).run Try.prog w = .ok () w' ∧ TSt l rest b1 b2 S base g c ops x o v hE hS w' us live (mput o.client o last) ∧ Kp (· = b2) w w' := by
  obtain ⟨w', h1, h2, h3⟩ := h.last.update (P := Try.prog) key_cl Try.underlying101 h.s2 o.client (cs := o.cells v) (a := o) ⟨v, rfl, hn, h.rd⟩
  exact ⟨w', h1, h.setLast h3 h2, h3⟩
end TSt
end Go.Proofs.Ytbncblnchcmgbaa
