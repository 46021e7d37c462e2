/-
  disk: a drive in memory; what stands ahead of a step; a step of any kind.
-/
import Derived.Test.YtflodiljgphkdaaGreatDisk2
import Derived.Test.YtflodiljgphkdaaGreatDisk3
import Derived.Test.YtflodiljgphkdaaGreatM1
namespace Go.Proofs.YtflodiljgphkdaaGreat
open Go.RowKit Go.ChangeShapes Go.WideShapes Go.ChangeAt

/-! ### a drive in memory -/
/-- its own block -/
def DBlk (w : World) (d m : Nat) (x : DV) : Prop := Blk w d 66 [.map (some m), .int .i64 x.fuse, .bool x.off, .int .i64 x.steps]
/-- Where each file lies: its block, its bytes' slice. -/
abbrev Loc := ByteArray → Nat × Value
structure DiskIn (w : World) (d m : Nat) (l : List (ByteArray × Value)) (L : Loc) (x : DV) : Prop where
  blk : DBlk w d m x
  map : MapOf w m Value.string l
  ents : ∀ n, mget n l = (mget n x.files).map fun _ => Value.pointer (some ⟨(L n).1, 0, none⟩)
  file : ∀ n f, mget n x.files = some f → FileIn w (L n).1 (L n).2 f
  apart : ∀ n n' f f', mget n x.files = some f → mget n' x.files = some f' → n ≠ n' → ∀ k, FF (L n).1 (L n).2 k → ¬ FF (L n').1 (L n').2 k
  ok : OkD x
/-- the blocks that it takes -/
def DF (d m : Nat) (L : Loc) (x : DV) (k : Nat) : Prop := k = d ∨ k = m ∨ ∃ n f, mget n x.files = some f ∧ FF (L n).1 (L n).2 k

theorem mapOf_ne_blk {κ : Type} {w : World} {m g : Nat} {enc : κ → Value} {l : List (κ × Value)} {e : TypeId} {vs : List Value} (h : MapOf w m enc l) (hb : Blk w g e vs) : m ≠ g := by
  rintro rfl
  obtain ⟨es, c, h1, _⟩ := h
  have h2 : w.heap[m]? = some (.cells vs.toArray e (0, 0)) := hb
  rw [h1] at h2; injection h2 with h2; cases h2
theorem mapOf_ne_cells {κ : Type} {w : World} {m g : Nat} {enc : κ → Value} {l : List (κ × Value)} {e : TypeId} {cs : Array Value} {fr : Nat × Nat} (h : MapOf w m enc l) (hb : w.heap[g]? = some (.cells cs e fr)) : m ≠ g := by
  rintro rfl
  obtain ⟨es, c, h1, _⟩ := h
  rw [h1] at hb; injection hb with hb; cases hb
theorem blk_ne_blk {w : World} {g g' : Nat} {e e' : TypeId} {vs vs' : List Value} (h : Blk w g e vs) (h' : Blk w g' e' vs') (hne : e ≠ e') : g ≠ g' := by
  rintro rfl
  have h1 : w.heap[g]? = some (.cells vs.toArray e (0, 0)) := h
  have h2 : w.heap[g]? = some (.cells vs'.toArray e' (0, 0)) := h'
  rw [h1] at h2; injection h2 with h2; injection h2 with _ h2; exact hne h2
theorem FileIn.ne_d {w : World} {b : Nat} {v : Value} {f : FV} (h : FileIn w b v f) {d m : Nat} {x : DV} (hd : DBlk w d m x) : ∀ k, FF b v k → k ≠ d := by
  rintro k (rfl | hk) rfl
  · exact blk_ne_blk h.1 hd (by decide) rfl
  · exact h.2.ne_blk hd (by decide) hk
theorem FileIn.ne_m {w : World} {b : Nat} {v : Value} {f : FV} (h : FileIn w b v f) {m : Nat} {l : List (ByteArray × Value)} (hm : MapOf w m Value.string l) : ∀ k, FF b v k → k ≠ m := by
  rintro k (rfl | hk) rfl
  · exact mapOf_ne_blk hm h.1 rfl
  · obtain ⟨cs, hc⟩ := h.2.block hk
    exact mapOf_ne_cells hm hc rfl
namespace DiskIn
variable {w w' : World} {d m : Nat} {l : List (ByteArray × Value)} {L : Loc} {x : DV}
theorem lt (h : DiskIn w d m l L x) : ∀ k, DF d m L x k → k < w.heap.size := by
  rintro k (rfl | rfl | ⟨n, f, hf, hk⟩)
  · exact Blk.lt h.blk
  · exact h.map.lt
  · exact (h.file n f hf).lt k hk
theorem d_ne_m (h : DiskIn w d m l L x) : d ≠ m := fun e => mapOf_ne_blk h.map h.blk e.symm
theorem kept {S : Nat → Prop} (h : DiskIn w d m l L x) (hk : Kp S w w') (hs : ∀ k, DF d m L x k → ¬ S k) : DiskIn w' d m l L x :=
  ⟨Blk.kept h.blk hk (hs d (.inl rfl)), h.map.kept hk (hs m (.inr (.inl rfl))), h.ents, fun n f hf => (h.file n f hf).kept hk fun k hk => hs k (.inr (.inr ⟨n, f, hf, hk⟩)), h.apart, h.ok⟩
theorem drew (h : DiskIn w d m l L x) : DiskIn w.drew d m l L x := h.kept (S := No) ((Kp.refl _ _).drew) (fun _ _ x => x)
theorem names (h : DiskIn w d m l L x) : ∀ n, mget n l = none ↔ mget n x.files = none := fun n => by rw [h.ents n]; cases mget n x.files <;> simp
/-- its own fields turned -/
theorem turned (h : DiskIn w d m l L x) (hk : Kp (· = d) w w') {y : DV} (hb : DBlk w' d m y) (hf : y.files = x.files) (ho : OkD y) : DiskIn w' d m l L y :=
  ⟨hb, h.map.kept hk h.d_ne_m.symm, by rw [hf]; exact h.ents, by rw [hf]; exact fun n f h1 => (h.file n f h1).kept hk fun k hk => (h.file n f h1).ne_d h.blk k hk, by rw [hf]; exact h.apart, ho⟩
end DiskIn

/-- A drive at d, that takes just the blocks F. -/
def DiskAt (w : World) (d : Nat) (x : DV) (F : Nat → Prop) : Prop := ∃ m l L, DiskIn w d m l L x ∧ ∀ k, F k ↔ DF d m L x k
/-- behind what was done with a thing that took the blocks F: it takes these and new ones -/
def Upd (F : Nat → Prop) (w w' : World) (F' : Nat → Prop) : Prop := Kp F w w' ∧ ∀ k, F' k → F k ∨ w.heap.size ≤ k
namespace DiskAt
variable {w w' : World} {d : Nat} {x : DV} {F : Nat → Prop}
theorem lt (h : DiskAt w d x F) : ∀ k, F k → k < w.heap.size := by
  obtain ⟨m, l, L, h, hF⟩ := h
  exact fun k hk => h.lt k ((hF k).1 hk)
theorem ok (h : DiskAt w d x F) : OkD x := by
  obtain ⟨m, l, L, h, hF⟩ := h
  exact h.ok
theorem kept {S : Nat → Prop} (h : DiskAt w d x F) (hk : Kp S w w') (hs : ∀ k, F k → ¬ S k) : DiskAt w' d x F := by
  obtain ⟨m, l, L, h, hF⟩ := h
  exact ⟨m, l, L, h.kept hk fun k hk => hs k ((hF k).2 hk), hF⟩
theorem keptNo (h : DiskAt w d x F) (hk : Kp No w w') : DiskAt w' d x F := h.kept hk fun _ _ x => x
end DiskAt

set_option maxRecDepth 100000 in
theorem d_ready (d m : Nat) (x : DV) (n : ByteArray) (w : World) (h : DBlk w d m x) :
    Calls Tryz.prog 68 #[.pointer (some ⟨d, 0, none⟩), .string n] w fun e w' => e = .returned (.int .i64 (readyD n x)) ∧ Kp No w w' := by
  have H := Lib.hid h
  clear h
  unfold readyD
  obtain ⟨B, hB⟩ : ∃ B, fineN n = B := ⟨_, rfl⟩
  obtain ⟨C, hC⟩ : ∃ C, x.off = C := ⟨_, rfl⟩
  have hfine := d_fine n w
  rw [hB] at hfine
  rw [hB, hC]
  have HC := Lib.hid hC
  clear hB hC
  go_enter Tryz.func68, Tryz.ntmps68
  go_wp2_with fail
  refine hfine.mono ?_
  rintro e w2 ⟨rfl, hk2⟩
  have HK2 := Lib.hid hk2
  have c2 : w2.cell? ⟨d, 2, none⟩ = some _ := (Blk.kept H.out hk2 (fun x => x)).cell rfl
  rw [HC.out] at c2
  clear hk2 hfine
  cases B <;> cases C <;> (go_wp2_with fail) <;> (go_ret) <;> exact ⟨rfl, HK2.out⟩
set_option maxRecDepth 100000 in
theorem d_ready_nil (n : ByteArray) (w : World) :
    Calls Tryz.prog 68 #[.pointer none, .string n] w fun e w' => e = .returned (.int .i64 2) ∧ w' = w := by
  go_enter Tryz.func68, Tryz.ntmps68
  go_wp2_with fail
  go_ret
  exact ⟨rfl, rfl⟩

set_option maxRecDepth 100000 in
/-- a step without power -/
theorem d_step_out (d m : Nat) (x : DV) (F : Value) (w : World) (h : DBlk w d m x) (hf : x.fuse = 0) :
    Calls Tryz.prog 69 #[.pointer (some ⟨d, 0, none⟩), F] w fun e w' => e = .returned (.int .i64 50) ∧ DBlk w' d m { x with off := true } ∧ Kp (· = d) w w' := by
  have H := Lib.hid h
  have c1 : w.cell? ⟨d, 1, none⟩ = some (.int .i64 x.fuse) := Blk.cell h rfl
  have c2 : w.cell? ⟨d, 2, none⟩ = some _ := Blk.cell h rfl
  have f2 := Blk.fr h 2
  rw [hf] at c1
  clear h
  go_enter Tryz.func69, Tryz.ntmps69
  go_wp2_with fail
  go_ret
  exact ⟨rfl, H.out.set 2 (.bool true), (Kp.refl (· = d) w).setCell (p := ⟨d, 2, none⟩) (fun _ => rfl) _⟩
/-- a drive that has gone a step on -/
def stepped (x : DV) : DV := { x with fuse := max (x.fuse - 1) (-1), steps := inc64 x.steps }
theorem max_fuse {f : Int} (h : -1 ≤ f) (hw : (Lit.int .i64 f).wf = true) : IntKind.i64.wrap (f - 1) = f - 1 := by
  have := wf64 hw
  exact wrap_i64 (by omega) (by omega)
set_option maxRecDepth 100000 in
/-- A step with power: what is handed in is called, whatever it is: in a world in which the drive has gone a step on. -/
theorem d_step (d m k : Nat) (cap : Array Value) (x : DV) (w : World) (h : DBlk w d m x) (ho : OkD x) (hf : x.fuse ≠ 0) (eg : ∀ args w, (callFunc k args).run Tryz.prog w = .ok (.enter k args) w) (R : World → Prop)
    (hk : ∀ w1, DBlk w1 d m (stepped x) → Kp (· = d) w w1 → w1.heap.size = w.heap.size → Calls Tryz.prog k cap w1 fun e w' => e = .returned (.tuple #[]) ∧ R w') :
    Calls Tryz.prog 69 #[.pointer (some ⟨d, 0, none⟩), .func (.func k) #[] cap] w fun e w' => e = .returned (.int .i64 0) ∧ R w' := by
  have H := Lib.hid h
  have c1 : w.cell? ⟨d, 1, none⟩ = some (.int .i64 x.fuse) := Blk.cell h rfl
  have c3 : w.cell? ⟨d, 3, none⟩ = some (.int .i64 x.steps) := Blk.cell h rfl
  have f1 := Blk.fr h 1
  have f3 := Blk.fr h 3
  have hfd : (x.fuse == 0) = false := by simpa using hf
  have hwr := max_fuse ho.fuse ho.fuseW
  have h1 := ho.fuse
  have HK := Lib.hid hk
  clear h hk
  go_enter Tryz.func69, Tryz.ntmps69
  go_wp2_with fail
  refine (HK.out _ ((H.out.set 1 _).set 3 _) (((Kp.refl (· = d) w).setCell (p := ⟨d, 1, none⟩) (fun _ => rfl) _).setCell (p := ⟨d, 3, none⟩) (fun _ => rfl) _) (by simp [World.setCell])).mono ?_
  rintro e w2 ⟨rfl, hr⟩
  have HR := Lib.hid hr
  clear hr
  go_wp2_with fail
  go_ret
  exact ⟨rfl, HR.out⟩
end Go.Proofs.YtflodiljgphkdaaGreat
