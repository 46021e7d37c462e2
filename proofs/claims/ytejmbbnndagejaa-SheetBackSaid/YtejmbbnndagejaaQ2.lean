/-
  pack.Reader: some, Num.
-/
import Derived.Test.YtejmbbnndagejaaQ1
import Derived.Laws.ResultCell
namespace Go.Proofs.Ytejmbbnndagejaa
open Go.RowKit Go.ChangeShapes Go.WideShapes Go.ChangeAt

set_option maxRecDepth 100000 in
theorem c_some_bad (g : Nat) (s : ByteArray) (F : Value) (w : World) (hg : IsRd w g s true) :
    Calls Try.prog 71 #[.pointer (some ⟨g, 0, none⟩), F] w fun e w' => e = .returned (.tuple #[]) ∧ Kp No w w' := by
  have g1 : w.cell? ⟨g, 1, none⟩ = some (.bool true) := Blk.cell hg rfl
  clear hg
  go_enter Try.func71, Try.ntmps71
  go_wp2_with fail
  exact bodyPost_ret (results_none rfl _ _ _) rfl ⟨rfl, Kp.refl _ _⟩

/-- what was done with a reader that was good -/
def SomeOut (g : Nat) (s : ByteArray) (Q : Bool → World → Prop) (w' : World) : Prop := Q true w' ∨ ∃ w1, Q false w1 ∧ IsRd w' g s true ∧ Kp (· = g) w1 w'
set_option maxRecDepth 100000 in
theorem c_some (g k : Nat) (cap : Array Value) (s : ByteArray) (w : World) (hg : IsRd w g s false) (Q : Bool → World → Prop) (eg : ∀ args w, (callFunc k args).run Try.prog w = .ok (.enter k args) w)
    (hk : Calls Try.prog k cap w fun e w' => ∃ b, e = .returned (.bool b) ∧ Q b w' ∧ (b = false → IsRd w' g s false)) :
    Calls Try.prog 71 #[.pointer (some ⟨g, 0, none⟩), .func (.func k) #[] cap] w fun e w' => e = .returned (.tuple #[]) ∧ SomeOut g s Q w' := by
  have g1 : w.cell? ⟨g, 1, none⟩ = some (.bool false) := Blk.cell hg rfl
  clear hg
  have HK := Lib.hid hk
  clear hk
  go_enter Try.func71, Try.ntmps71
  go_wp2_with fail
  refine HK.out.mono ?_
  rintro e w1 ⟨b, rfl, hq, hb⟩
  cases b with
  | true =>
    have HQ := Lib.hid hq
    clear hq hb
    go_wp2_with fail
    go_end0
    exact ⟨rfl, .inl HQ.out⟩
  | false =>
    have HQ := Lib.hid hq
    have hg := hb rfl
    have HG := Lib.hid hg
    have c1 : w1.cell? ⟨g, 1, none⟩ = some (.bool false) := Blk.cell hg rfl
    have f1 := Blk.fr hg 1
    clear hq hb hg
    go_wp2_with fail
    go_end0
    exact ⟨rfl, .inr ⟨w1, HQ.out, Blk.set HG.out 1 (.bool true), (Kp.refl (· = g) w1).setCell (p := ⟨g, 1, none⟩) (fun _ => rfl) _⟩⟩

/-- what a number's reading leaves -/
def NumRes (R : Option (Int × List UInt8)) (s : ByteArray) (v : Int) (s2 : ByteArray) (b2 : Bool) : Prop :=
  match R with
  | none => v = 0 ∧ s2 = s ∧ b2 = true
  | some p => v = p.1 ∧ s2 = bs p.2 ∧ b2 = false
/-- what a reading hands back -/
def RdOut (g : Nat) (w : World) (s : ByteArray) (z : Value) (R : Option (Value × List UInt8)) (e : Ending) (w' : World) : Prop :=
  Kp (· = g) w w' ∧ match R with
  | none => e = .returned z ∧ IsRd w' g s true
  | some p => e = .returned p.1 ∧ IsRd w' g (bs p.2) false
theorem results_cell1 {P : Program} {fn : Func} {p : Tmp} {ty : TypeId} (h : fn.results = #[.cell p ty]) (tmps : Array Value) (w : World) (a : Addr) (v : Value) (hp : tmps.getD p undef = .pointer (some a)) (hv : (loadVar ty a).run P w = .ok v w) :
    (results fn tmps).run P w = .ok v w := by
  have hp' : tmps[p]?.getD undef = .pointer (some a) := by simpa using hp
  simp [results, h, hp', asAddr, hv]

set_option maxRecDepth 100000 in
theorem c_Num_bad (g : Nat) (s : ByteArray) (w : World) (hg : IsRd w g s true) :
    Calls Try.prog 53 #[.pointer (some ⟨g, 0, none⟩)] w fun e w' => e = .returned (.int .i64 0) ∧ Kp No w w' := by
  have HG := Lib.hid hg
  have hgl := Blk.lt hg
  clear hg
  go_enter Try.func53, Try.ntmps53
  go_wp2_with fail
  obtain ⟨w1, hw1⟩ : ∃ w1, (w.alloc (.cells #[.pointer (some ⟨g, 0, none⟩)] 75)).alloc (.cells #[.int .i64 0] 3) = w1 := ⟨_, rfl⟩
  have HM : Hid (Blk w1 (w.heap.size + 1) 3 [.int .i64 0]) := Lib.hid (by
    rw [← hw1]
    have h := Blk.new (w.alloc (.cells #[.pointer (some ⟨g, 0, none⟩)] 75)) [.int .i64 0] 3
    simpa using h)
  have HK1 : Hid (Kp No w w1) := Lib.hid (by rw [← hw1]; exact ((Kp.refl _ _).alloc _).alloc _)
  rw [hw1]
  clear hw1
  refine (c_some_bad g s _ w1 (Blk.kept HG.out HK1.out (fun x => x))).mono ?_
  rintro e w2 ⟨rfl, hk2⟩
  have HM2 := Lib.hid (HM.out.kept hk2 (fun x => x))
  have HK2 := Lib.hid (HK1.out.trans' hk2)
  have m0 : w2.cell? ⟨w.heap.size + 1, 0, none⟩ = some (.int .i64 0) := HM2.out.cell rfl
  have mf := HM2.out.fr 0
  have hkf : Kp No w (w2.setCell ⟨w.heap.size + 1, 0, none⟩ (.int .i64 0)) := HK2.out.setCell (fun h => absurd h (by show ¬ w.heap.size + 1 < _; omega)) _
  have hmf := HM2.out.set 0 (.int .i64 0)
  have z0 : (w2.setCell ⟨w.heap.size + 1, 0, none⟩ (.int .i64 0)).cell? ⟨w.heap.size + 1, 0, none⟩ = some (.int .i64 0) := Blk.cell hmf rfl
  have HKF := Lib.hid hkf
  clear hk2 hkf hmf
  go_wp2_with fail
  refine bodyPost_ret (results_cell1 rfl _ _ ⟨w.heap.size + 1, 0, none⟩ _ rfl (by go_simp)) rfl ⟨rfl, HKF.out⟩

set_option maxRecDepth 100000 in
theorem c_Num (g : Nat) (s : ByteArray) (R : Option (Int × List UInt8)) (hR : rdNum s.data.toList = R) (w : World) (hg : IsRd w g s false) (hs : s.size ≤ 1073741824) :
    Calls Try.prog 53 #[.pointer (some ⟨g, 0, none⟩)] w fun e w' => RdOut g w s (.int .i64 0) (R.map fun p => (.int .i64 p.1, p.2)) e w' := by
  have HR := Lib.hid hR
  have HG := Lib.hid hg
  clear hR hg
  have hgl := Blk.lt HG.out
  go_enter Try.func53, Try.ntmps53
  go_wp2_with fail
  obtain ⟨w1, hw1⟩ : ∃ w1, (w.alloc (.cells #[.pointer (some ⟨g, 0, none⟩)] 75)).alloc (.cells #[.int .i64 0] 3) = w1 := ⟨_, rfl⟩
  have HB : Hid (Blk w1 w.heap.size 75 [.pointer (some ⟨g, 0, none⟩)]) := Lib.hid (by rw [← hw1]; exact (Blk.new w _ _).kept (S := No) ((Kp.refl _ _).alloc _) (fun x => x))
  have HM : Hid (Blk w1 (w.heap.size + 1) 3 [.int .i64 0]) := Lib.hid (by
    rw [← hw1]
    have h := Blk.new (w.alloc (.cells #[.pointer (some ⟨g, 0, none⟩)] 75)) [.int .i64 0] 3
    simpa using h)
  have HK1 : Hid (Kp No w w1) := Lib.hid (by rw [← hw1]; exact ((Kp.refl _ _).alloc _).alloc _)
  have HG1 := Lib.hid (Blk.kept HG.out HK1.out (fun x => x))
  rw [hw1]
  clear hw1
  refine (c_some g 72 _ s w1 HG1.out (fun b w' => NumEnd g (w.heap.size + 1) w1 R (.returned (.bool b)) w') (enters_of Try.func72 (by kernel_rfl) rfl) ((c_Num1 w.heap.size (w.heap.size + 1) g s R HR.out w1 HB.out HM.out HG1.out hs).mono ?_)).mono ?_
  · intro e w' h
    cases R with
    | none => exact ⟨false, h.1, ⟨rfl, h.2⟩, fun _ => Blk.kept HG1.out h.2 (fun x => x)⟩
    | some p => exact ⟨true, h.1, ⟨rfl, h.2⟩, fun hb => by cases hb⟩
  rintro e w2 ⟨rfl, ho⟩
  have hend : ∃ (v : Int) (s2 : ByteArray) (b2 : Bool), Blk w2 (w.heap.size + 1) 3 [.int .i64 v] ∧ IsRd w2 g s2 b2 ∧ Kp (fun k => k = g ∨ k = w.heap.size + 1) w1 w2 ∧ NumRes R s v s2 b2 := by
    cases R with
    | none =>
      rcases ho with ⟨h, _⟩ | ⟨w3, ⟨_, h2⟩, h3, h4⟩
      · cases h
      · exact ⟨0, s, true, (HM.out.kept h2 (fun x => x)).kept h4 (fun e => by omega), h3, h2.any.trans h4 (fun _ _ e => .inl e), rfl, rfl, rfl⟩
    | some p =>
      rcases ho with ⟨_, h2, h3, h4⟩ | ⟨w3, ⟨h, _⟩, _⟩
      · exact ⟨p.1, bs p.2, false, h3, h2, h4, rfl, rfl, rfl⟩
      · cases h
  obtain ⟨v, s2, b2, hm2, hg2, hk2, hR2⟩ := hend
  have m0 : w2.cell? ⟨w.heap.size + 1, 0, none⟩ = some (.int .i64 v) := hm2.cell rfl
  have mf := hm2.fr 0
  have hmf := hm2.set 0 (.int .i64 v)
  have hgf : IsRd (w2.setCell ⟨w.heap.size + 1, 0, none⟩ (.int .i64 v)) g s2 b2 := Blk.kept (S := (· = w.heap.size + 1)) hg2 ((Kp.refl (· = w.heap.size + 1) w2).setCell (p := ⟨w.heap.size + 1, 0, none⟩) (fun _ => rfl) _) (fun e => by omega)
  have hkf : Kp (· = g) w (w2.setCell ⟨w.heap.size + 1, 0, none⟩ (.int .i64 v)) := ((HK1.out.any.trans hk2 (S := fun k => k = g ∨ k = w.heap.size + 1) (fun _ _ e => e)).setCell (p := ⟨w.heap.size + 1, 0, none⟩) (fun _ => .inr rfl) _).mono (fun k hk e => by rcases e with e | e; exact e; omega)
  have z0 : (w2.setCell ⟨w.heap.size + 1, 0, none⟩ (.int .i64 v)).cell? ⟨w.heap.size + 1, 0, none⟩ = some (.int .i64 v) := Blk.cell hmf rfl
  have HGF := Lib.hid hgf
  have HKF := Lib.hid hkf
  have HR2 := Lib.hid hR2
  clear hmf hgf hkf hm2 hg2 hk2 hR2 ho
  go_wp2_with fail
  refine bodyPost_ret (results_cell1 rfl _ _ ⟨w.heap.size + 1, 0, none⟩ (.int .i64 v) rfl (by go_simp)) rfl ⟨HKF.out, ?_⟩
  have h2 := HR2.out
  have h3 := HGF.out
  clear HR HR2 HGF
  cases R with
  | none => obtain ⟨rfl, rfl, rfl⟩ := h2; exact ⟨rfl, h3⟩
  | some p => obtain ⟨rfl, rfl, rfl⟩ := h2; exact ⟨rfl, h3⟩
end Go.Proofs.Ytejmbbnndagejaa
