/-
  Whatever was done, and whatever bits have turned: what Get answers has the digest that was asked for: VaultTrue answers true for every input of bulk at most 1048576. (Said is false BY SIZE.)
-/
import Derived.Test.YtflodiljgphkdaaOwn
import Derived.Test.YtflodiljgphkdaaVltN
import Derived.Test.YtflodiljgphkdaaAwk10
import Derived.Test.YtflodiljgphkdaaClsh
namespace Go.Proofs.Ytflodiljgphkdaa
section
open Go.RowKit Go.ChangeShapes Go.WideShapes Go.ChangeAt

structure OpW where
  kind : Int
  text : ByteArray
  more : List ByteArray
  name : ByteArray
  n : Int
  keeps : List Int
def Rp.opw : Rp OpW where
  size := 6
  R w S cs a := ∃ u v, cs = [.int .i64 a.kind, .string a.text, u, .string a.name, .int .i64 a.n, v] ∧ (Lit.int .i64 a.kind).wf = true ∧ a.text.size ≤ maxLen ∧ Rp.str.slice.R w S [u] a.more ∧ a.name.size ≤ maxLen ∧ (Lit.int .i64 a.n).wf = true ∧ (Rp.int .i64).slice.R w S [v] a.keeps
  μ a := a.text.size + Rp.str.slice.μ a.more + a.name.size + (Rp.int .i64).slice.μ a.keeps
  pos := by omega
  len := by rintro w S cs a ⟨u, v, rfl, _⟩; rfl
  keep := by
    rintro w w' S S' cs a hs hk ⟨u, v, rfl, h1, h2, h3, h4, h5, h6⟩
    exact ⟨u, v, rfl, h1, h2, Rp.str.slice.keep hs hk h3, h4, h5, (Rp.int .i64).slice.keep hs hk h6⟩
  bnd := by
    rintro w S cs a ⟨u, v, rfl, h1, h2, h3, h4, h5, h6⟩
    exact ⟨u, v, rfl, h1, h2, Rp.str.slice.bnd h3, h4, h5, (Rp.int .i64).slice.bnd h6⟩

theorem Arg.opw {P : Program} {t : TypeId} {f0 f1 f2 f3 f4 f5 : Field} (ht : P.underlying t = some (.struct #[f0, f1, f2, f3, f4, f5])) (ho : [f0.offset, f1.offset, f2.offset, f3.offset, f4.offset, f5.offset] = [0, 1, 2, 3, 4, 5])
    (hc : [P.cellsOf f0.type, P.cellsOf f1.type, P.cellsOf f2.type, P.cellsOf f3.type, P.cellsOf f4.type, P.cellsOf f5.type] = [1, 1, 1, 1, 1, 1]) (hct : P.cellsOf t = 6)
    (h0 : P.underlying f0.type = some (.int .i64)) (h1 : P.underlying f1.type = some .string) (h2 : Arg P f2.type Rp.str.slice) (h3 : P.underlying f3.type = some .string) (h4 : P.underlying f4.type = some (.int .i64)) (h5 : Arg P f5.type (Rp.int .i64).slice) : Arg P t Rp.opw := by
  intro H enc w spare held fuel cs x h
  obtain ⟨xs, n, _, rfl, hl, hlen, hf⟩ := DataW.trod_struct ht h
  simp only [List.cons.injEq, and_true] at ho hc
  obtain ⟨o0, o1, o2, o3, o4, o5⟩ := ho
  obtain ⟨c0, c1, c2, c3, c4, c5⟩ := hc
  rw [hct] at hl
  match xs, hlen with
  | [y0, y1, y2, y3, y4, y5], _ =>
    have g0 := hf 0 f0 rfl
    have g1 := hf 1 f1 rfl
    have g2 := hf 2 f2 rfl
    have g3 := hf 3 f3 rfl
    have g4 := hf 4 f4 rfl
    have g5 := hf 5 f5 rfl
    match cs, hl with
    | [a, b, c, d, e, f], _ =>
      rw [o0, c0] at g0
      rw [o1, c1] at g1
      rw [o2, c2] at g2
      rw [o3, c3] at g3
      rw [o4, c4] at g4
      rw [o5, c5] at g5
      simp only [List.drop_zero, List.drop_succ_cons, List.take_succ_cons, List.take_zero, List.getElem?_cons_zero, List.getElem?_cons_succ] at g0 g1 g2 g3 g4 g5
      obtain ⟨k, e0, e0', w0⟩ := DataW.trod_int h0 g0
      obtain ⟨s1, e1, e1', w1⟩ := DataW.trod_string h1 g1
      obtain ⟨l2, hr2, hμ2⟩ := h2 g2
      obtain ⟨s3, e3, e3', w3⟩ := DataW.trod_string h3 g3
      obtain ⟨m, e4, e4', w4⟩ := DataW.trod_int h4 g4
      obtain ⟨l5, hr5, hμ5⟩ := h5 g5
      simp only [List.cons.injEq, and_true] at e0 e1 e3 e4
      subst e0 e1 e3 e4
      refine ⟨⟨k, s1, l2, s3, m, l5⟩, ⟨c, f, rfl, w0, w1, hr2, w3, w4, hr5⟩, ?_⟩
      have hμ2' : Rp.str.slice.μ l2 ≤ Rows.uptoBulk y2.1 := hμ2
      have hμ5' : (Rp.int .i64).slice.μ l5 ≤ Rows.uptoBulk y5.1 := hμ5
      have b1 : s1.size ≤ Rows.uptoBulk y1.1 := by rw [e1']; simp [Rows.uptoBulk]
      have b3 : s3.size ≤ Rows.uptoBulk y3.1 := by rw [e3']; simp [Rows.uptoBulk]
      show s1.size + Rp.str.slice.μ l2 + s3.size + (Rp.int .i64).slice.μ l5 ≤ _
      simp only [List.map_cons, List.map_nil, Rows.uptoBulk, Rows.uptoBulkAll]
      omega

theorem Rp.at_opw {w : World} {S : Nat → Prop} {A : Option Addr} {c : Nat} {l : List OpW} (h : Rp.opw.slice.R w S [.slice A l.length c] l) {i : Nat} {o : OpW} (hi : l[i]? = some o) :
    ∃ ad A2 c2 A5 c5, A = some ad ∧ (∀ (j : Nat) u, [Value.int .i64 o.kind, .string o.text, .slice A2 o.more.length c2, .string o.name, .int .i64 o.n, .slice A5 o.keeps.length c5][j]? = some u → w.cell? ((ad.add (i * 6)).add j) = some u) ∧ (Lit.int .i64 o.n).wf = true ∧ Rp.str.slice.R w S [.slice A2 o.more.length c2] o.more ∧ (Rp.int .i64).slice.R w S [.slice A5 o.keeps.length c5] o.keeps := by
  obtain ⟨A0, c0, he, _, _, h3⟩ := h
  simp only [List.cons.injEq, Value.slice.injEq, and_true, true_and] at he
  obtain ⟨rfl, rfl⟩ := he
  have hl : 0 < l.length := by have := (List.getElem?_eq_some_iff.1 hi).1; omega
  obtain ⟨ad, rfl, hb, hc⟩ := h3 hl
  obtain ⟨es, he, u, v, rfl, _, _, hms, _, hwf, hks⟩ := hc i o hi
  obtain ⟨A2, c2, hu, _⟩ := id hms
  obtain ⟨A5, c5, hv, _⟩ := id hks
  simp only [List.cons.injEq, and_true] at hu hv
  subst hu hv
  exact ⟨ad, A2, c2, A5, c5, rfl, fun j u hu => he j u hu, hwf, hms, hks⟩
theorem sumμ_memW {α : Type} {f : α → Nat} : ∀ {l : List α} {a : α}, a ∈ l → f a ≤ Rp.sumμ f l
  | b :: l, a, h => by
    unfold Rp.sumμ
    rw [List.map_cons, List.sum_cons]
    rcases List.mem_cons.1 h with rfl | h
    · omega
    · have := sumμ_memW (f := f) h; unfold Rp.sumμ at this; omega
theorem sumμ_lengthW {α : Type} {f : α → Nat} (hf : ∀ a, 1 ≤ f a) : ∀ l : List α, l.length ≤ Rp.sumμ f l
  | [] => Nat.zero_le _
  | b :: l => by
    have := sumμ_lengthW hf l
    have := hf b
    unfold Rp.sumμ at *
    rw [List.map_cons, List.sum_cons, List.length_cons]; omega
theorem opw_μ (o : OpW) : o.text.size + o.name.size + o.keeps.length + 1 ≤ Rp.opw.μ o := by
  have h1 : o.keeps.length ≤ Rp.sumμ (Rp.int .i64).μ o.keeps := sumμ_lengthW (fun _ => Nat.le_refl _) _
  show _ ≤ o.text.size + (1 + Rp.sumμ Rp.str.μ o.more) + o.name.size + (1 + Rp.sumμ (Rp.int .i64).μ o.keeps)
  omega
theorem opws_small {l : List OpW} (h : Rp.opw.slice.μ l ≤ 1048576) : (∀ o ∈ l, o.text.size ≤ 1048576 ∧ o.name.size ≤ 1048576) ∧ l.length ≤ 1048576 := by
  have h : 1 + Rp.sumμ Rp.opw.μ l ≤ 1048576 := h
  constructor
  · intro o ho
    have h1 := sumμ_memW (f := Rp.opw.μ) ho
    have h2 := opw_μ o
    omega
  · have := sumμ_lengthW (f := Rp.opw.μ) (fun o => by have := opw_μ o; omega) l
    omega
/-- an answer, whatever -/
def AnyBool (e : Ending) : Prop := ∃ B, e = .returned (.bool B)
set_option maxRecDepth 100000 in
set_option maxHeartbeats 2000000 in
theorem h_greatW (l : List OpW) (A : Option Addr) (c : Nat) (w : World) (S : Nat → Prop) (hl : Rp.opw.slice.R w S [.slice A l.length c] l) (hμ : Rp.opw.slice.μ l ≤ 1048576) :
    Calls Try.prog 33 #[.slice A l.length c] w fun e w' => AnyBool e ∧ Kp No w w' := by
  obtain ⟨hsz, hll⟩ := opws_small hμ
  have HL := Lib.hid hl
  have HSZ := Lib.hid hsz
  clear hl hμ hsz
  go_enter Try.func33, Try.ntmps33
  go_wp2_with fail
  go_loopw [3, 10] (fun nv iv wr => ∃ (i : Nat) (x : Int), i ≤ l.length ∧ iv = .int .i64 (i : Int) ∧ nv = .int .i64 x ∧ Hid (Kp No w wr)) (fun _ iv _ => l.length - (intOf iv).toNat)
  case atStart => exact ⟨0, 0, by omega, rfl, rfl, Lib.hid (Kp.refl _ _)⟩
  case round =>
    obtain ⟨i, x, hi, rfl, rfl, HK⟩ := hrel
    by_cases hlt : i < l.length
    · have hli : (i : Int) < (l.length : Int) := by omega
      obtain ⟨o, ho⟩ : ∃ o, l[i]? = some o := ⟨_, List.getElem?_eq_getElem hlt⟩
      obtain ⟨h1, h2⟩ := HSZ.out o (List.mem_of_getElem? ho)
      obtain ⟨ad, A2, c2, A5, c5, rfl, hcell, _, hms, _⟩ := Rp.at_opw (Rp.opw.slice.keptNo HL.out HK.out) ho
      have z0 : wr.cell? (ad.add (i * 6)) = some _ := hcell 0 _ rfl
      have z1 : wr.cell? ⟨(ad.add (i * 6)).block, (ad.add (i * 6)).off + 1, none⟩ = some _ := hcell 1 _ rfl
      have z2 : wr.cell? ⟨(ad.add (i * 6)).block, (ad.add (i * 6)).off + 2, none⟩ = some _ := hcell 2 _ rfl
      have z3 : wr.cell? ⟨(ad.add (i * 6)).block, (ad.add (i * 6)).off + 3, none⟩ = some _ := hcell 3 _ rfl
      have z4 : wr.cell? ⟨(ad.add (i * 6)).block, (ad.add (i * 6)).off + 4, none⟩ = some _ := hcell 4 _ rfl
      have z5 : wr.cell? ⟨(ad.add (i * 6)).block, (ad.add (i * 6)).off + 5, none⟩ = some _ := hcell 5 _ rfl
      have g1 : (o.text.size : Int) ≤ 1048576 := by omega
      have g2 : (o.name.size : Int) ≤ 1048576 := by omega
      have HMS := Lib.hid hms
      have hml : (o.more.length : Int) ≤ 9223372036854775807 := by obtain ⟨_, _, he, h1, h2, _⟩ := hms; unfold maxLen at h2; omega
      clear hcell ho hms h1 h2
      go_wp2_with fail
      · go_ret
        exact ⟨⟨_, rfl⟩, HK.out.alloc _⟩
      · have HMS3 := Lib.hid (Rp.str.slice.keptNo HMS.out ((Kp.refl No wr).alloc (.cells #[.int .i64 o.kind, .string o.text, .slice A2 o.more.length c2, .string o.name, .int .i64 o.n, .slice A5 o.keeps.length c5] 59)))
        obtain ⟨w3, hw3⟩ : ∃ w3, wr.alloc (.cells #[.int .i64 o.kind, .string o.text, .slice A2 o.more.length c2, .string o.name, .int .i64 o.n, .slice A5 o.keeps.length c5] 59) = w3 := ⟨_, rfl⟩
        have HK3 : Hid (Kp No w w3) := Lib.hid (by rw [← hw3]; exact HK.out.alloc _)
        rw [hw3] at HMS3
        rw [hw3]
        clear z0 z1 z2 z3 z4 z5 hw3 HMS
        generalize wr = w13 at *
        go_loopw [3, 39] (fun nv iv wr2 => ∃ (j : Nat) (y : Int), j ≤ o.more.length ∧ iv = .int .i64 (j : Int) ∧ nv = .int .i64 y ∧ Hid (Kp No w3 wr2)) (fun _ iv _ => o.more.length - (intOf iv).toNat)
        case atStart => exact ⟨0, _, Nat.zero_le _, rfl, rfl, Lib.hid (Kp.refl _ _)⟩
        case round =>
          obtain ⟨j, y, hj, rfl, rfl, HK2⟩ := hrel
          by_cases hlt : j < o.more.length
          · have hlj : (j : Int) < (o.more.length : Int) := by omega
            obtain ⟨s, hs⟩ : ∃ s, o.more[j]? = some s := ⟨_, List.getElem?_eq_getElem hlt⟩
            obtain ⟨ad, rfl, _, hcell, _⟩ := Rp.at_str (Rp.str.slice.keptNo HMS3.out HK2.out) hs
            clear hs
            go_wp2_with fail
            all_goals first
              | (go_ret
                 exact ⟨⟨_, rfl⟩, HK3.out.trans' HK2.out⟩)
              | (go_roundw
                 case rel => exact ⟨j + 1, _, by omega, by go_num, rfl, HK2⟩
                 case measure => simp [intOf]; omega)
          · obtain rfl : j = o.more.length := by omega
            go_wp2_with fail
            go_roundw
            case rel => exact ⟨i + 1, _, by omega, by go_num, rfl, Lib.hid (HK3.out.trans' HK2.out)⟩
            case measure => simp [intOf]; omega
    · obtain rfl : i = l.length := by omega
      go_wp2_with fail
      go_ret
      exact ⟨⟨_, rfl⟩, HK.out⟩
end

section
open Go.RowKit Go.ChangeShapes Go.WideShapes Go.ChangeAt

/-- the types of a vault's own rows -/
def VT (e : TypeId) : Prop := e = 113 ∨ e = 85 ∨ e = 92 ∨ e = 5
instance (e : TypeId) : Decidable (VT e) := by unfold VT; exact inferInstance
/-- all rows but those of a vault's own types are as they were -/
def KpV (w w' : World) : Prop := ∃ T, Kp T w w' ∧ ∀ (g : Nat) cs (e : TypeId) fr, w.heap[g]? = some (.cells cs e fr) → T g → VT e
namespace KpV
variable {w w' a b c : World}
theorem ofNo (h : Kp No w w') : KpV w w' := ⟨No, h, fun _ _ _ _ _ h => h.elim⟩
theorem refl (w : World) : KpV w w := ofNo (Kp.refl _ _)
theorem size (h : KpV w w') : w.heap.size ≤ w'.heap.size := by obtain ⟨_, h, _⟩ := h; exact h.size
theorem trans (h : KpV a b) (k : KpV b c) : KpV a c := by
  obtain ⟨T1, h1, h2⟩ := h
  obtain ⟨T2, k1, k2⟩ := k
  refine ⟨fun g => T1 g ∨ T2 g, (h1.mono fun _ _ h => .inl h).trans k1 fun _ _ h => .inr h, fun g cs e fr hg ht => ?_⟩
  by_cases h3 : T1 g
  · exact h2 g cs e fr hg h3
  · have hlt : g < a.heap.size := (Array.getElem?_eq_some_iff.1 hg).1
    exact k2 g cs e fr ((h1.block g hlt h3).trans hg) (ht.resolve_left h3)
theorem blk (h : KpV w w') {g : Nat} {e : TypeId} {vs : List Value} (hb : Blk w g e vs) (he : ¬ VT e) : Blk w' g e vs := by
  obtain ⟨T, h1, h2⟩ := h
  exact Blk.kept hb h1 fun ht => he (h2 g _ e _ hb ht)
theorem own (h : KpV w w') {α : Type} {E : Rp α} {base : Nat} {e : TypeId} {v : Value} {l : List α} (ho : Own E w No base e v l) (he : ¬ VT e) : Own E w' No base e v l := by
  obtain ⟨T, h1, h2⟩ := h
  exact ho.kept h1 (fun _ hk => hk.elim) fun k hk ht => by
    obtain ⟨cs, hc⟩ := ho.block hk
    exact he (h2 k _ _ _ hc ht)
end KpV
theorem VAt.types {w : World} {v d : Nat} {X : VV} {F : Nat → Prop} (h : VAt w v d X F) {k : Nat} (hk : F k) {cs : Array Value} {e : TypeId} {fr : Nat × Nat} (hb : w.heap[k]? = some (.cells cs e fr)) : VT e := by
  obtain ⟨b, kp, lb, lk, F0, h, hF⟩ := h
  rcases (hF k).1 hk with rfl | rfl | rfl | hk
  · have h1 : w.heap[k]? = some (.cells _ 113 (0, 0)) := h.blk
    rw [h1] at hb; injection hb with hb; injection hb with _ hb; exact .inl hb.symm
  · obtain ⟨es, c, h1, _⟩ := h.needs
    rw [h1] at hb; cases hb
  · obtain ⟨es, c, h1, _⟩ := h.keeps
    rw [h1] at hb; cases hb
  · exact .inr (h.disk.types hk hb)
theorem VAt.keptS {w w' : World} {v d : Nat} {X : VV} {F S : Nat → Prop} (h : VAt w v d X F) (hk : Kp S w w') (hs : ∀ k, F k → ¬ S k) : VAt w' v d X F := by
  obtain ⟨b, kp, lb, lk, F0, h, hF⟩ := h
  exact ⟨b, kp, lb, lk, F0, ⟨Blk.kept h.blk hk (hs v ((hF v).2 (.inl rfl))), h.needs.kept hk (hs b ((hF b).2 (.inr (.inl rfl)))), h.keeps.kept hk (hs kp ((hF kp).2 (.inr (.inr (.inl rfl))))), h.bents, h.kents, h.disk.kept hk (fun k hf => hs k ((hF k).2 (.inr (.inr (.inr hf))))), h.ne, h.nv, h.nb, h.nk, h.ok⟩, hF⟩
namespace VNew
variable {w0 w w' : World} {v d : Nat} {X Y : VV}
theorem stepV (h : ∃ F, VAt w v d X F ∧ Kp No w0 w ∧ (∀ k, F k → w0.heap.size ≤ k) ∧ ∃ F', VAt w' v d Y F' ∧ Upd F w w' F') : VNew w0 w' v d Y ∧ KpV w w' := by
  refine ⟨VNew.step h, ?_⟩
  obtain ⟨F, h1, _, _, F', _, h5, _⟩ := h
  exact ⟨F, h5, fun g cs e fr hg hf => h1.types hf hg⟩
/-- rows of other types turned -/
theorem others {S : Nat → Prop} (h : VNew w0 w v d X) (hk : Kp S w w') (h0 : ∀ k, S k → w0.heap.size ≤ k) (hs : ∀ k, S k → ∃ cs e fr, w.heap[k]? = some (.cells cs e fr) ∧ ¬ VT e) : VNew w0 w' v d X := by
  obtain ⟨F, h1, h2, h3⟩ := h
  refine ⟨F, h1.keptS hk (fun k hf hsk => ?_), h2.trans hk (fun i hi hsi => absurd (h0 i hsi) (by omega)), h3⟩
  obtain ⟨cs, e, fr, hc, he⟩ := hs k hsk
  exact he (h1.types hf hc)
end VNew
section
variable {w0 : World} {v d : Nat} {X : VV} (n : ByteArray) (w : World) (h : VNew w0 w v d X)
include h
theorem g_put (hl : X.kept.length < 2000000) : Calls Try.prog 36 #[.pointer (some ⟨v, 0, none⟩), .string n] w fun e w' => e = .returned (.tuple #[.string (putV n X).1.1, .int .i64 (putV n X).1.2]) ∧ VNew w0 w' v d (putV n X).2 ∧ KpV w w' := by
  obtain ⟨F, h1, h2, h3⟩ := h
  exact (v_put v d X F n w h1 hl).mono fun e w' ⟨he, h4⟩ => ⟨he, VNew.stepV ⟨F, h1, h2, h3, h4⟩⟩
theorem g_get (hs : n.size ≤ 1048576) : Calls Try.prog 39 #[.pointer (some ⟨v, 0, none⟩), .string n] w fun e w' => e = .returned (.tuple #[.string (getV n X).1.1, .int .i64 (getV n X).1.2]) ∧ VNew w0 w' v d (getV n X).2 ∧ KpV w w' := by
  obtain ⟨F, h1, h2, h3⟩ := h
  exact (v_get v d X F n hs w h1).mono fun e w' ⟨he, h4⟩ => ⟨he, VNew.stepV ⟨F, h1, h2, h3, h4⟩⟩
theorem g_flip (b : Int) (hb : (Lit.int .i64 b).wf = true) : Calls Try.prog 37 #[.pointer (some ⟨d, 0, none⟩), .string n, .int .i64 b] w fun e w' => e = .returned (.int .i64 (flipD n b X.d).1) ∧ VNew w0 w' v d { X with d := (flipD n b X.d).2 } ∧ KpV w w' := by
  obtain ⟨F, ⟨b0, kp, lb, lk, F0, h1, hF⟩, h2, h3⟩ := h
  refine (d_flip d X.d F0 n b w h1.disk hb).mono fun e w' ⟨he, F', h5, h6⟩ => ⟨he, VNew.stepV ⟨F, ⟨b0, kp, lb, lk, F0, h1, hF⟩, h2, h3, _, ⟨b0, kp, lb, lk, F', h1.turned h5 h6 (flipD_ok h1.ok.dk n b), fun k => Iff.rfl⟩, Upd.vault hF h6⟩⟩
end
/-- a vault on a drive that was just made -/
theorem g_open {w0 w : World} {d : Nat} {x : DV} (h : DNew w0 w d x) (q : Int) (hf : x.files = []) (ho : x.off = false) (h0 : 0 ≤ q) (h1 : q ≤ 1048576) :
    Calls Try.prog 34 #[.pointer (some ⟨d, 0, none⟩), .int .i64 q] w fun e w' => ∃ v, e = .returned (.tuple #[.pointer (some ⟨v, 0, none⟩), .int .i64 0]) ∧ VNew w0 w' v d (openV x q) ∧ Kp No w w' := by
  obtain ⟨F0, g1, g2, g3⟩ := h
  refine (v_open d x F0 q w g1 hf ho h0 h1).mono fun e w' ⟨v, F, he, h2, h3, h4⟩ => ⟨v, he, ⟨F, h2, g2.trans' h3, fun k hk => ?_⟩, h3⟩
  rcases h4 k hk with h | h
  · exact g3 k h
  · exact Nat.le_trans g2.size h
/-- what Get answers -/
theorem getV_cases (h : ByteArray) (X : VV) : (∃ s, (getV h X).1 = (s, 0) ∧ s.size ≠ 0 ∧ s.size ≤ 64 ∧ digest s = h) ∨ (∃ e, (getV h X).1 = (⟨#[]⟩, e) ∧ e ≠ 0) := by
  unfold getV
  split
  · exact .inr ⟨50, rfl, by omega⟩
  split
  · exact .inr ⟨100, rfl, by omega⟩
  split
  · rename_i _ _ hw
    unfold wholeB goodC at hw
    simp only [Bool.and_eq_true, decide_eq_true_eq] at hw
    exact .inl ⟨_, rfl, hw.2.1, hw.2.2.1, hw.2.2.2⟩
  split
  · exact .inr ⟨101, rfl, by omega⟩
  · rename_i hd
    exact .inr ⟨_, rfl, hd⟩
theorem dropV_len (h : ByteArray) (X : VV) : (dropV h X).2.kept.length ≤ X.kept.length := by
  unfold dropV
  split
  · exact mdel_length _ _
  · exact Nat.le_refl _
theorem getV_len (h : ByteArray) (X : VV) : (getV h X).2.kept.length ≤ X.kept.length := by
  unfold getV
  split
  · exact Nat.le_refl _
  split
  · exact Nat.le_refl _
  split
  · exact Nat.le_refl _
  split
  · exact dropV_len _ _
  · exact dropV_len _ _
theorem writeV_len (c h : ByteArray) (X : VV) : (writeV c h X).2.kept.length ≤ X.kept.length + 1 := by
  unfold writeV
  split
  · exact Nat.le_succ _
  split
  · exact Nat.le_succ _
  split
  · exact Nat.le_succ _
  · exact ins_length _
theorem putV_len (c : ByteArray) (X : VV) : (putV c X).2.kept.length ≤ X.kept.length + 1 := by
  unfold putV
  split
  · exact Nat.le_succ _
  split
  · exact Nat.le_succ _
  split
  · exact Nat.le_succ _
  split
  · split
    · exact Nat.le_trans (writeV_len _ _ _) (Nat.succ_le_succ (dropV_len _ _))
    · exact Nat.le_succ_of_le (dropV_len _ _)
  · exact writeV_len _ _ _
end

section
open Go.RowKit Go.ChangeShapes Go.WideShapes Go.ChangeAt

/-- The walk that gives VaultTrueUpto. -/
def VaultTrueUptoWalk : Prop := ∀ (W : World) (v0 : Value) (a0 : Int) (v1 : Value) (a1 : (List OpW)) (v2 : Value) (a2 : ByteArray), (Rp.int .i64).R W (fun k => k < W.heap.size) [v0] a0 → (Rp.slice Rp.opw).R W (fun k => k < W.heap.size) [v1] a1 → Rp.str.R W (fun k => k < W.heap.size) [v2] a2 → (Rp.int .i64).μ a0 + (Rp.slice Rp.opw).μ a1 + Rp.str.μ a2 ≤ 1048576 →
    Calls Try.prog 9 #[v0, v1, v2] W fun e w' => e = .returned (.bool true) ∧ Kp No W w'

set_option maxRecDepth 100000 in
theorem vaultTrueUpto_contract (walk : VaultTrueUptoWalk) (H : Type) (enc : TypeId × Value → H) (W : World) (base : Nat) (args : Array Value) (ds gs : List (DataW H)) (before : List MemPlace)
    (hval : ∀ (j : Nat) t v, Try.f9.params[j]? = some t → args[j]? = some v → Value.okWide Try.prog W .any base t v)
    (hW : DataW.Whole enc Try.prog Try.f9.params.toList Rows.vaultTrueSpec.vars false W args.toList ds gs before) (hk : Rows.uptoSmall H (ds ++ gs) = true) :
    Calls Try.prog 9 args W fun e W' => ∃ v, e = .returned v ∧ Rows.vaultTrueSpec.post enc Try.prog Try.f9 false true false false W args v W' := by
  have hW' := hW
  obtain ⟨p, q, hA0, hV, rfl, hfz, hnd⟩ := hW
  have hA : DataW.TrodAll enc Try.prog W 0 (fun _ => true) true Try.f9.params.toList args.toList ds p := hA0
  rw [Try.params9] at hA hval
  obtain ⟨v0, vs0, d0, ds0, p0, q0, hargs, rfl, rfl, h0, r0⟩ := trodAll_cons hA
  obtain ⟨v1, vs1, d1, ds1, p1, q1, rfl, rfl, rfl, h1, r1⟩ := trodAll_cons r0
  obtain ⟨v2, vs2, d2, ds2, p2, q2, rfl, rfl, rfl, h2, r2⟩ := trodAll_cons r1
  obtain ⟨rfl, rfl, rfl⟩ := trodAll_nil r2
  obtain rfl : args = #[v0, v1, v2] := by cases args; simp_all
  obtain ⟨rfl, rfl⟩ := trodVars_none hV
  clear hA0
  have c0 : v0.cells.toList = [v0] := one_of_int (okWide_int Try.underlying3 (hval 0 3 v0 rfl rfl))
  obtain ⟨a0, e0, m0⟩ := Arg.one (Arg.int Try.underlying3) c0 h0
  have c1 : v1.cells.toList = [v1] := one_of_slice (okWide_slice Try.underlying53 (hval 1 53 v1 rfl rfl))
  obtain ⟨a1, e1, m1⟩ := Arg.one (Arg.slice Try.underlying53 (by kernel_rfl) (Arg.opw Try.underlying59 (by kernel_rfl) (by kernel_rfl) (by kernel_rfl) Try.underlying3 Try.underlying9 (Arg.slice Try.underlying47 (by kernel_rfl) (Arg.str Try.underlying9)) Try.underlying9 Try.underlying3 (Arg.slice Try.underlying34 (by kernel_rfl) (Arg.int Try.underlying3)))) c1 h1
  have c2 : v2.cells.toList = [v2] := one_of_string (okWide_string Try.underlying9 (hval 2 9 v2 rfl rfl))
  obtain ⟨a2, e2, m2⟩ := Arg.one (Arg.str Try.underlying9) c2 h2
  have hbd := bound_of hk
  simp only [List.append_nil, Rows.uptoBulkAll] at hbd
  refine (walk W v0 a0 v1 a1 v2 a2 e0 e1 e2 (by omega)).mono fun e W' ⟨he, hb⟩ => ?_
  subst he
  refine ⟨_, rfl, post_of_law (tb := 4) (by kernel_rfl) ?_ (by kernel_rfl) Try.underlying4 rfl ?_ hW' hb⟩
  · rw [Try.params9]
    intro t ht
    simp only [List.mem_cons, List.not_mem_nil, or_false] at ht
    rcases ht with rfl | rfl | rfl <;> exact ⟨by kernel_rfl, by decide +kernel⟩
  · rw [Try.params9]
    intro l hl
    match l, hl with
    | [x0, x1, x2], _ => rfl

set_option maxRecDepth 100000 in
theorem vaultTrueUpto_lifted (walk : VaultTrueUptoWalk) (os : Os) (started : os.Started) (H : Type) (enc : TypeId × Value → H) (F : Stop.Interp) :
    ReturnsInHanded {} Try.checked os 9 .any ((Rows.OpenSpec.upto Rows.vaultTrueSpec).pre6 enc Try.prog Try.f9 Rows.vaultTrueUptoRow.domain false) (((Rows.OpenSpec.upto Rows.vaultTrueSpec).at F).post enc Try.prog Try.f9 false true false false) := by
  refine returnsInHanded_of_cond (C := Try.checked) (s := (Rows.OpenSpec.upto Rows.vaultTrueSpec)) (k := Rows.uptoSmall) rfl (by kernel_rfl : ownKnob Try.prog.godebug = none) started (by kernel_rfl) Try.func9
    (OpenSpec.witness (enc := enc) (C := Try.checked) (s := (Rows.OpenSpec.upto Rows.vaultTrueSpec)) (k := Rows.uptoSmall) rfl false ⟨#[], #[.int .i64 0, .slice none 0 0, .string ByteArray.empty], []⟩ 8 (by kernel_rfl) (by kernel_rfl) (by kernel_rfl)
      (x := ([.lit (.int .i64 0), .nil, .lit (.string [])], [], [])) (by kernel_rfl) rfl (by kernel_rfl)) ?_
  intro W base args ds gs before hval hW _ hk _
  exact vaultTrueUpto_contract walk H enc W base args ds gs before hval hW hk
theorem vaultTrueUpto_of (walk : VaultTrueUptoWalk) : Rows.VaultTrueUptoSaid :=
  OpenClaim.holds_of_cond 9 Try.f9 rfl rfl rfl rfl rfl rfl rfl ⟨rfl, rfl, rfl, rfl, rfl⟩ rfl rfl rfl rfl rfl (by kernel_rfl) Try.func9 (by kernel_rfl)
    (of_decide_eq_true (by kernel_rfl)) (by unfold Func.isWrapper; first | (rw [if_pos (by decide +kernel)]; kernel_rfl) | (rw [if_neg (by decide +kernel)]; exact ⟨rfl, rfl⟩))
    (fun os started H enc _ F => vaultTrueUpto_lifted walk os started H enc F)
end

section
open Go.RowKit Go.ChangeShapes Go.WideShapes Go.ChangeAt

theorem sum1At (s : ByteArray) (hs : s.size ≤ 1048576) (w : World) (ty : TypeId) : Calls Try.prog 35 #[.slice (some ⟨w.heap.size, 0, none⟩) 1 1] (w.alloc (.cells #[.string s] ty)) fun e w' => e = .returned (.string (digest s)) ∧ Kp No w w' :=
  (t_sum1 s (w.alloc (.cells #[.string s] ty)) (g := w.heap.size) (heap_alloc_new w _) hs).mono fun _ _ ⟨h1, h2⟩ => ⟨h1, ((Kp.refl No w).alloc _).trans' h2⟩
theorem list3 (a b c : ByteArray) (w : World) (ty : TypeId) (ha : a.size ≤ maxLen) (hb : b.size ≤ maxLen) (hc : c.size ≤ maxLen) :
    Rp.str.slice.R (w.alloc (.cells #[.string a, .string b, .string c] ty)) (· = w.heap.size) [.slice (some ⟨w.heap.size, 0, none⟩) 3 3] [a, b, c] := by
  refine Rp.of_block1 (E := Rp.str) (l := [a, b, c]) rfl Value.string (heap_alloc_new w _) rfl rfl (Nat.le_refl _) (by show 3 ≤ maxLen; decide) ?_
  intro x hx
  simp only [List.mem_cons, List.not_mem_nil, or_false] at hx
  rcases hx with rfl | rfl | rfl
  · exact ⟨rfl, ha⟩
  · exact ⟨rfl, hb⟩
  · exact ⟨rfl, hc⟩
set_option maxRecDepth 100000 in
set_option maxHeartbeats 4000000 in
theorem vaultTrue_walk : VaultTrueUptoWalk := by
  intro W v0 n v1 l v2 ask h0 h1 h2 hμ
  obtain ⟨hv0, hwf⟩ := h0
  obtain ⟨A, c, hv1, hlc, hcm, _⟩ := id h1
  obtain ⟨hv2, _⟩ := h2
  simp only [List.cons.injEq, and_true] at hv0 hv1 hv2
  subst hv0 hv1 hv2
  have hμ1 : Rp.opw.slice.μ l ≤ 1048576 := by have : (Rp.int .i64).μ n + Rp.opw.slice.μ l + Rp.str.μ ask ≤ 1048576 := hμ; omega
  obtain ⟨hsz, hll⟩ := opws_small hμ1
  have HMU := Lib.hid hμ1
  have HSZ := Lib.hid hsz
  have HL := Lib.hid h1
  clear hμ hμ1 h1 hlc hcm hsz hwf
  go_enter Try.func9, Try.ntmps9
  go_wp2_with fail
  refine (awake10 W).mono ?_
  rintro e w1 ⟨rfl, hk1⟩
  have HK := Lib.hid hk1
  clear hk1
  go_wp2_with fail
  refine (h_greatW l A c w1 _ (Rp.opw.slice.keptNo HL.out HK.out) HMU.out).mono ?_
  rintro e w2 ⟨⟨B, rfl⟩, hk2⟩
  have HK := Lib.hid (HK.out.trans' hk2)
  clear hk2
  cases B with
  | true =>
    go_wp2_with fail
    refine (awake10 _).mono ?_
    rintro e wz ⟨rfl, hkz⟩
    have HKZ := Lib.hid (HK.out.trans' hkz)
    clear hkz
    go_wp2_with fail
    go_ret
    exact ⟨rfl, HKZ.out⟩
  | false =>
    by_cases ha : (64 : Int) < (ask.size : Int)
    · go_wp2_with fail
      refine (awake10 _).mono ?_
      rintro e wz ⟨rfl, hkz⟩
      have HKZ := Lib.hid (HK.out.trans' hkz)
      clear hkz
      go_wp2_with fail
      go_ret
      exact ⟨rfl, HKZ.out⟩
    have haz : ask.size ≤ 64 := by omega
    go_wp2_with fail
    refine (n_new w2).mono ?_
    rintro e w3 ⟨d, rfl, hd, _⟩
    have HD := Lib.hid (show DNew W w3 d newD by obtain ⟨F, g1, g2, g3⟩ := hd; exact ⟨F, g1, HK.out.trans' g2, fun k hk => Nat.le_trans HK.out.size (g3 k hk)⟩)
    clear hd
    by_cases hq : n < 0 ∨ 1048576 < n
    · have hb := v_open_bad d n hq w3
      have HB := Lib.hid hb
      clear hb hq
      go_wp2_with fail
      refine HB.out.mono ?_
      rintro e w4 ⟨rfl, rfl⟩
      go_wp2_with fail
      go_ret
      exact ⟨rfl, HD.out.kp⟩
    have ho := u_open HD.out n rfl rfl (by omega) (by omega)
    have HOP := Lib.hid ho
    clear ho hq
    go_wp2_with fail
    refine HOP.out.mono ?_
    rintro e w4 ⟨v, rfl, hv⟩
    have HV := Lib.hid hv
    clear hv
    go_wp2_with fail
    go_loopw [42] (fun iv wr => ∃ (i : Nat) (X : VV), i ≤ l.length ∧ iv = .int .i64 (i : Int) ∧ VNew W wr v d X ∧ X.kept.length ≤ i) (fun iv _ => l.length - (intOf iv).toNat)
    case atStart => exact ⟨0, openV newD n, Nat.zero_le _, rfl, HV.out, Nat.le_refl _⟩
    case round =>
      clear HV
      obtain ⟨i, X, hi, rfl, hv, hkl⟩ := hrel
      have HV := Lib.hid hv
      have HKL := Lib.hid hkl
      clear hv hkl
      by_cases hlt : i < l.length
      · have hli : (i : Int) < (l.length : Int) := by omega
        obtain ⟨o, ho⟩ : ∃ o, l[i]? = some o := ⟨_, List.getElem?_eq_getElem hlt⟩
        obtain ⟨h1, _⟩ := HSZ.out o (List.mem_of_getElem? ho)
        obtain ⟨ad, A2, c2, A5, c5, rfl, hcell, hwf, _, _⟩ := Rp.at_opw (Rp.opw.slice.keptNo HL.out HV.out.kp) ho
        have z0 : wr.cell? (ad.add (i * 6)) = some _ := hcell 0 _ rfl
        have z1 : wr.cell? ⟨(ad.add (i * 6)).block, (ad.add (i * 6)).off + 1, none⟩ = some _ := hcell 1 _ rfl
        have z2 : wr.cell? ⟨(ad.add (i * 6)).block, (ad.add (i * 6)).off + 2, none⟩ = some _ := hcell 2 _ rfl
        have z3 : wr.cell? ⟨(ad.add (i * 6)).block, (ad.add (i * 6)).off + 3, none⟩ = some _ := hcell 3 _ rfl
        have z4 : wr.cell? ⟨(ad.add (i * 6)).block, (ad.add (i * 6)).off + 4, none⟩ = some _ := hcell 4 _ rfl
        have z5 : wr.cell? ⟨(ad.add (i * 6)).block, (ad.add (i * 6)).off + 5, none⟩ = some _ := hcell 5 _ rfl
        have HTS := Lib.hid h1
        have HWF := Lib.hid hwf
        clear hcell ho h1 hwf
        obtain ⟨K, hK⟩ : ∃ K, o.kind = K := ⟨_, rfl⟩
        obtain ⟨H, hH⟩ : ∃ H, digest o.text = H := ⟨_, rfl⟩
        obtain ⟨HA, hHA⟩ : ∃ HA, digest ask = HA := ⟨_, rfl⟩
        have hHs : H.size = 32 := by rw [← hH, digest_size]
        have hHAs : HA.size = 32 := by rw [← hHA, digest_size]
        have hsum := fun (w' : World) => sum1At o.text HTS.out w' 9
        have hsuma := fun (w' : World) => sum1At ask (by omega) w' 9
        rw [hH] at hsum
        rw [hHA] at hsuma
        have HSUM := Lib.hid hsum
        have HSUMA := Lib.hid hsuma
        have HHS := Lib.hid hHs
        have HHAS := Lib.hid hHAs
        have HH := Lib.hid hH
        have HHA := Lib.hid hHA
        rw [hK] at z0
        have hb5 := Blk.new wr [.int .i64 K, .string o.text, .slice A2 o.more.length c2, .string o.name, .int .i64 o.n, .slice A5 o.keeps.length c5] 59
        have HB5 := Lib.hid hb5
        clear hK hb5 hsum hsuma hHs hHAs hH hHA
        obtain ⟨w5, hw5⟩ : ∃ w5, wr.alloc (.cells #[.int .i64 K, .string o.text, .slice A2 o.more.length c2, .string o.name, .int .i64 o.n, .slice A5 o.keeps.length c5] 59) = w5 := ⟨_, rfl⟩
        have hsz : wr.heap.size + 1 = w5.heap.size := by rw [← hw5]; simp
        have HW5 := Lib.hid hw5
        have HSZ5 := Lib.hid hsz
        clear hw5 hsz
        go_wp2_with fail
        rw [HW5.out, HSZ5.out]
        refine (HSUM.out w5).mono ?_
        rintro e w6 ⟨rfl, hk6⟩
        have hk5 : Kp No wr w5 := by rw [← HW5.out]; exact (Kp.refl No wr).alloc _
        have HB6 := Lib.hid (Blk.kept (by rw [← HW5.out]; exact HB5.out) hk6 (fun x => x))
        have HV6 := Lib.hid (HV.out.kept (hk5.trans' hk6))
        clear hk5 HW5 HSZ5
        obtain ⟨g, hg⟩ : ∃ g, wr.heap.size = g := ⟨_, rfl⟩
        rw [hg] at HB6
        rw [hg]
        clear z0 z1 z2 z3 z4 z5 hk6 HB5 HV hg
        have y0 : w6.cell? ⟨g, 0, none⟩ = some _ := Blk.cell HB6.out rfl
        have y1 : w6.cell? ⟨g, 1, none⟩ = some _ := Blk.cell HB6.out rfl
        have y4 : w6.cell? ⟨g, 4, none⟩ = some _ := Blk.cell HB6.out rfl
        have hkl0 : X.kept.length < 2000000 := by have := HKL.out; omega
        by_cases k1 : K = 1
        · subst k1
          go_wp2_with fail
          refine (g_put o.text w6 HV6.out hkl0).mono ?_
          rintro e w7 ⟨rfl, hv7, hk7⟩
          have HV7 := Lib.hid hv7
          have HB7 := Lib.hid (hk7.blk HB6.out (by decide))
          have hlen := putV_len o.text X
          obtain ⟨Y, hY⟩ : ∃ Y, (putV o.text X).2 = Y := ⟨_, rfl⟩
          rw [hY] at HV7 hlen
          have HYL : Hid (Y.kept.length ≤ i + 1) := Lib.hid (by have := HKL.out; omega)
          clear y0 y1 y4 hv7 hk7 HB6 HV6 hlen hY
          go_wp2_with fail
          refine (HSUMA.out _).mono ?_
          rintro e w8 ⟨rfl, hk8⟩
          have HV8 := Lib.hid (HV7.out.kept hk8)
          have HB8 := Lib.hid (Blk.kept HB7.out hk8 (fun x => x))
          clear hk8
          go_wp2_with fail
          obtain ⟨w9, hw9⟩ : ∃ w9, w8.alloc (.cells #[.string H, .string HA] 9) = w9 := ⟨_, rfl⟩
          have hb9 : Blk w9 w8.heap.size 9 [.string H, .string HA] := by rw [← hw9]; exact Blk.new w8 _ _
          have hk9 : Kp No w8 w9 := by rw [← hw9]; exact (Kp.refl _ _).alloc _
          have HT9 := Lib.hid hb9
          have HV9 := Lib.hid (HV8.out.kept hk9)
          have HB9 := Lib.hid (Blk.kept HB8.out hk9 (fun x => x))
          obtain ⟨g2, hg2⟩ : ∃ g2, w8.heap.size = g2 := ⟨_, rfl⟩
          rw [hg2] at HT9
          rw [hw9, hg2]
          clear hb9 hk9 hw9 hg2 HV8 HB8 HV7 HB7
          generalize wr = w13 at *
          go_loopw [73] (fun jv wr => ∃ (j : Nat) (Z : VV), j ≤ 2 ∧ jv = .int .i64 (j : Int) ∧ VNew W wr v d Z ∧ Z.kept.length ≤ i + 1 ∧ Hid (Blk wr g 59 [.int .i64 1, .string o.text, .slice A2 o.more.length c2, .string o.name, .int .i64 o.n, .slice A5 o.keeps.length c5]) ∧ Hid (Blk wr g2 9 [.string H, .string HA])) (fun jv _ => 2 - (intOf jv).toNat)
          case atStart => exact ⟨0, Y, by omega, rfl, HV9.out, HYL.out, HB9, HT9⟩
          case round =>
            clear HV9 HB9 HT9
            obtain ⟨j, Z, hj, rfl, hv, hzl, HB, HT⟩ := hrel
            have HV := Lib.hid hv
            have HZL := Lib.hid hzl
            clear hv hzl
            by_cases hj2 : j < 2
            · have hji : (j : Int) < 2 := by omega
              obtain ⟨q, hq, hqd⟩ : ∃ q, wr.cell? ⟨g2, j, none⟩ = some (.string q) ∧ (q = H ∨ q = HA) := by
                rcases (by omega : j = 0 ∨ j = 1) with rfl | rfl
                · exact ⟨H, Blk.cell HT.out rfl, .inl rfl⟩
                · exact ⟨HA, Blk.cell HT.out rfl, .inr rfl⟩
              have hqs : q.size = 32 := by rcases hqd with rfl | rfl; exact HHS.out; exact HHAS.out
              have hc := g_get q wr HV.out (by omega)
              have hzl := getV_len q Z
              obtain ⟨R, hR⟩ : ∃ R, getV q Z = R := ⟨_, rfl⟩
              have hcs := getV_cases q Z
              rw [hR] at hc hzl hcs
              have HZL2 : Hid (R.2.kept.length ≤ i + 1) := Lib.hid (by have := HZL.out; omega)
              have HC := Lib.hid hc
              have HCS := Lib.hid hcs
              clear hR hc hzl hcs
              go_wp2_with fail
              refine HC.out.mono ?_
              rintro e w10 ⟨rfl, hv, hkv⟩
              have HV10 := Lib.hid hv
              have HB10 := Lib.hid (hkv.blk HB.out (by decide))
              have HT10 := Lib.hid (hkv.blk HT.out (by decide))
              clear hv hkv HC hq HB HT HV
              have y1 : w10.cell? ⟨g, 1, none⟩ = some _ := Blk.cell HB10.out rfl
              rcases HCS.out with ⟨s, hs, hs0, hs64, hsd⟩ | ⟨er, her, hne⟩
              · rw [hs]
                have hcl := r_clash [s, o.text, ask] (some ⟨w10.heap.size, 0, none⟩) 3 (w10.alloc (.cells #[.string s, .string o.text, .string ask] 9)) _ (list3 s o.text ask w10 9 (by unfold maxLen; omega) (by have := HTS.out; unfold maxLen; omega) (by unfold maxLen; omega)) (by simp) (by
                  intro x hx
                  simp only [List.mem_cons, List.not_mem_nil, or_false] at hx
                  rcases hx with rfl | rfl | rfl
                  · omega
                  · exact HTS.out
                  · omega)
                obtain ⟨C, hC⟩ : ∃ C, (!decide (NoClash [s, o.text, ask])) = C := ⟨_, rfl⟩
                rw [hC] at hcl
                have HC := Lib.hid hC
                have HCL := Lib.hid hcl
                have hsum := fun (w' : World) => sum1At s (by omega) w' 9
                rw [hsd] at hsum
                have HSS := Lib.hid hsum
                have HS0 := Lib.hid hs0
                have HSD := Lib.hid hsd
                have he1 : s.toList.isEmpty = false := by have := toList_ne hs0; simpa using this
                clear hC hcl hsum hs hs64 hsd hs0
                go_wp2_with fail
                refine HCL.out.mono ?_
                rintro e w11 ⟨rfl, hk⟩
                have hk11 : Kp No w10 w11 := ((Kp.refl No w10).alloc _).trans' hk
                have HV11 := Lib.hid (HV10.out.kept hk11)
                have HB11 := Lib.hid (Blk.kept HB10.out hk11 (fun x => x))
                have HT11 := Lib.hid (Blk.kept HT10.out hk11 (fun x => x))
                clear hk hk11 y1 HV10 HB10 HT10 HCL
                cases C with
                | true =>
                  clear HCS HC HSS HS0 HSD he1
                  go_wp2_with fail
                  go_ret
                  exact ⟨rfl, HV11.out.kp⟩
                | false =>
                  have hnc : NoClash [s, o.text, ask] := by have := HC.out; simpa using this
                  have y1 : w11.cell? ⟨g, 1, none⟩ = some _ := Blk.cell HB11.out rfl
                  by_cases hqH : q = H
                  · have hso : s = o.text := hnc s (by simp) o.text (by simp) (by show digest s = digest o.text; rw [HSD.out, HH.out, hqH])
                    have hqb : (q.toList == H.toList) = true := by rw [toList_beq]; exact decide_eq_true hqH
                    have hsb : (s.toList == o.text.toList) = true := by rw [toList_beq]; exact decide_eq_true hso
                    clear hnc HC HS0 HSD HCS hqH hso
                    go_wp2_with fail
                    refine (HSS.out _).mono ?_
                    rintro e w12 ⟨rfl, hk12⟩
                    have HV12 := Lib.hid (HV11.out.kept hk12)
                    have HB12 := Lib.hid (Blk.kept HB11.out hk12 (fun x => x))
                    have HT12 := Lib.hid (Blk.kept HT11.out hk12 (fun x => x))
                    clear hk12 HV11 HB11 HT11 y1
                    have y1 : w12.cell? ⟨g, 1, none⟩ = some _ := Blk.cell HB12.out rfl
                    go_wp2_with fail
                    refine (HSUM.out _).mono ?_
                    rintro e w13 ⟨rfl, hk13⟩
                    have HV13 := Lib.hid (HV12.out.kept hk13)
                    have HB13 := Lib.hid (Blk.kept HB12.out hk13 (fun x => x))
                    have HT13 := Lib.hid (Blk.kept HT12.out hk13 (fun x => x))
                    clear hk13 HV12 HB12 HT12 y1
                    have y1 : w13.cell? ⟨g, 1, none⟩ = some _ := Blk.cell HB13.out rfl
                    go_wp2_with fail
                    go_roundw
                    case rel => exact ⟨j + 1, R.2, by omega, by go_num, HV13.out, HZL2.out, HB13, HT13⟩
                    case measure => simp [intOf]; omega
                  · have hqb : (q.toList == H.toList) = false := by rw [toList_beq]; exact decide_eq_false hqH
                    clear hnc HC HS0 HSD HCS hqH
                    go_wp2_with fail
                    refine (HSS.out _).mono ?_
                    rintro e w12 ⟨rfl, hk12⟩
                    have HV12 := Lib.hid (HV11.out.kept hk12)
                    have HB12 := Lib.hid (Blk.kept HB11.out hk12 (fun x => x))
                    have HT12 := Lib.hid (Blk.kept HT11.out hk12 (fun x => x))
                    clear hk12 HV11 HB11 HT11 y1
                    have y1 : w12.cell? ⟨g, 1, none⟩ = some _ := Blk.cell HB12.out rfl
                    go_wp2_with fail
                    refine (HSUM.out _).mono ?_
                    rintro e w13 ⟨rfl, hk13⟩
                    have HV13 := Lib.hid (HV12.out.kept hk13)
                    have HB13 := Lib.hid (Blk.kept HB12.out hk13 (fun x => x))
                    have HT13 := Lib.hid (Blk.kept HT12.out hk13 (fun x => x))
                    clear hk13 HV12 HB12 HT12 y1
                    go_wp2_with fail
                    go_roundw
                    case rel => exact ⟨j + 1, R.2, by omega, by go_num, HV13.out, HZL2.out, HB13, HT13⟩
                    case measure => simp [intOf]; omega
              · rw [her]
                have he1 : (er != 0) = true := by simpa using hne
                have he2 : (er == 0) = false := by simpa using hne
                clear her HCS
                go_wp2_with fail
                go_roundw
                case rel => exact ⟨j + 1, R.2, by omega, by go_num, HV10.out, HZL2.out, HB10, HT10⟩
                case measure => simp [intOf]; omega
            · obtain rfl : j = 2 := by omega
              go_wp2_with fail
              go_roundw
              case rel => exact ⟨i + 1, Z, by omega, by go_num, HV.out, HZL.out⟩
              case measure => simp [intOf]; omega
        by_cases k8 : K = 8
        · subst k8
          have hno : ¬ 9223372036854775807 < 2 + (bs (nameL H.data.toList)).size := by rw [bs_size, nameL_length, data_length, HHS.out]; omega
          go_wp2_with fail
          refine Reg.wp_region_plan [⟨0, false, []⟩, ⟨1, false, []⟩, ⟨4, false, []⟩, ⟨5, false, []⟩, ⟨2, true, [4, 5]⟩, ⟨3, false, []⟩, ⟨6, true, []⟩] rfl (by kernel_rfl) ?_
          repeat (first | (refine Reg.look rfl rfl rfl (by go_simp; rfl) rfl ?_; go_simp) | (refine Reg.skip rfl rfl rfl ?_; go_simp))
          refine Reg.act rfl ?_
          go_wp2_with fail
          refine (c_name H _ (by rw [HHS.out]; omega)).mono ?_
          rintro e w7 ⟨rfl, hk7⟩
          have hk7 : Kp No w6 w7 := ((Kp.refl No w6).drew).trans' hk7
          have HB7 := Lib.hid (Blk.kept HB6.out hk7 (fun x => x))
          have HV7 := Lib.hid (HV6.out.kept hk7)
          clear hk7 HB6 HV6
          have y5 : w7.cell? ⟨g, 4, none⟩ = some _ := Blk.cell HB7.out rfl
          have hfl := g_flip (fileN H) w7 HV7.out o.n HWF.out
          obtain ⟨FD, hFD⟩ : ∃ FD, flipD (fileN H) o.n X.d = FD := ⟨_, rfl⟩
          rw [hFD] at hfl
          have HFL := Lib.hid hfl
          clear hfl hFD
          go_wp2_with fail
          (refine ⟨?anew, ?_⟩; case anew => ((repeat (refine Reg.anew_cons rfl rfl (fun _ => by go_simp) ?_)); exact Reg.anew_nil))
          repeat (first | (refine Reg.look rfl rfl rfl (by go_simp; rfl) rfl ?_; go_simp) | (refine Reg.skip rfl rfl rfl ?_; go_simp))
          refine Reg.act rfl ?_
          go_wp2_with fail
          refine HFL.out.mono ?_
          rintro e w8 ⟨rfl, hv8, hk8⟩
          have HV8 := Lib.hid hv8
          have HB8 := Lib.hid (hk8.blk HB7.out (by decide))
          clear hv8 hk8 HFL HV7 HB7
          go_wp2_with fail
          (refine ⟨?anew, ?_⟩; case anew => ((repeat (refine Reg.anew_cons rfl rfl (fun _ => by go_simp) ?_)); exact Reg.anew_nil))
          repeat (first | (refine Reg.look rfl rfl rfl (by go_simp; rfl) rfl ?_; go_simp) | (refine Reg.skip rfl rfl rfl ?_; go_simp))
          (refine Reg.done ?_; simp only [Exit.then])
          obtain ⟨Y, hY⟩ : ∃ Y : VV, { X with d := FD.2 } = Y := ⟨_, rfl⟩
          rw [hY] at HV8
          have HYL : Hid (Y.kept.length ≤ i + 1) := Lib.hid (by rw [← hY]; have := HKL.out; show X.kept.length ≤ i + 1; omega)
          generalize w8 = w7 at *
          have HV7 := HV8
          have HB7 := HB8
          clear y0 y1 y4 y5 hY HB8 HV8
          go_wp2_with fail
          refine (HSUMA.out _).mono ?_
          rintro e w8 ⟨rfl, hk8⟩
          have HV8 := Lib.hid (HV7.out.kept hk8)
          have HB8 := Lib.hid (Blk.kept HB7.out hk8 (fun x => x))
          clear hk8
          go_wp2_with fail
          obtain ⟨w9, hw9⟩ : ∃ w9, w8.alloc (.cells #[.string H, .string HA] 9) = w9 := ⟨_, rfl⟩
          have hb9 : Blk w9 w8.heap.size 9 [.string H, .string HA] := by rw [← hw9]; exact Blk.new w8 _ _
          have hk9 : Kp No w8 w9 := by rw [← hw9]; exact (Kp.refl _ _).alloc _
          have HT9 := Lib.hid hb9
          have HV9 := Lib.hid (HV8.out.kept hk9)
          have HB9 := Lib.hid (Blk.kept HB8.out hk9 (fun x => x))
          obtain ⟨g2, hg2⟩ : ∃ g2, w8.heap.size = g2 := ⟨_, rfl⟩
          rw [hg2] at HT9
          rw [hw9, hg2]
          clear hb9 hk9 hw9 hg2 HV8 HB8 HV7 HB7
          generalize wr = w13 at *
          go_loopw [73] (fun jv wr => ∃ (j : Nat) (Z : VV), j ≤ 2 ∧ jv = .int .i64 (j : Int) ∧ VNew W wr v d Z ∧ Z.kept.length ≤ i + 1 ∧ Hid (Blk wr g 59 [.int .i64 8, .string o.text, .slice A2 o.more.length c2, .string o.name, .int .i64 o.n, .slice A5 o.keeps.length c5]) ∧ Hid (Blk wr g2 9 [.string H, .string HA])) (fun jv _ => 2 - (intOf jv).toNat)
          case atStart => exact ⟨0, Y, by omega, rfl, HV9.out, HYL.out, HB9, HT9⟩
          case round =>
            clear HV9 HB9 HT9
            obtain ⟨j, Z, hj, rfl, hv, hzl, HB, HT⟩ := hrel
            have HV := Lib.hid hv
            have HZL := Lib.hid hzl
            clear hv hzl
            by_cases hj2 : j < 2
            · have hji : (j : Int) < 2 := by omega
              obtain ⟨q, hq, hqd⟩ : ∃ q, wr.cell? ⟨g2, j, none⟩ = some (.string q) ∧ (q = H ∨ q = HA) := by
                rcases (by omega : j = 0 ∨ j = 1) with rfl | rfl
                · exact ⟨H, Blk.cell HT.out rfl, .inl rfl⟩
                · exact ⟨HA, Blk.cell HT.out rfl, .inr rfl⟩
              have hqs : q.size = 32 := by rcases hqd with rfl | rfl; exact HHS.out; exact HHAS.out
              have hc := g_get q wr HV.out (by omega)
              have hzl := getV_len q Z
              obtain ⟨R, hR⟩ : ∃ R, getV q Z = R := ⟨_, rfl⟩
              have hcs := getV_cases q Z
              rw [hR] at hc hzl hcs
              have HZL2 : Hid (R.2.kept.length ≤ i + 1) := Lib.hid (by have := HZL.out; omega)
              have HC := Lib.hid hc
              have HCS := Lib.hid hcs
              clear hR hc hzl hcs
              go_wp2_with fail
              refine HC.out.mono ?_
              rintro e w10 ⟨rfl, hv, hkv⟩
              have HV10 := Lib.hid hv
              have HB10 := Lib.hid (hkv.blk HB.out (by decide))
              have HT10 := Lib.hid (hkv.blk HT.out (by decide))
              clear hv hkv HC hq HB HT HV
              have y1 : w10.cell? ⟨g, 1, none⟩ = some _ := Blk.cell HB10.out rfl
              rcases HCS.out with ⟨s, hs, hs0, hs64, hsd⟩ | ⟨er, her, hne⟩
              · rw [hs]
                have hcl := r_clash [s, o.text, ask] (some ⟨w10.heap.size, 0, none⟩) 3 (w10.alloc (.cells #[.string s, .string o.text, .string ask] 9)) _ (list3 s o.text ask w10 9 (by unfold maxLen; omega) (by have := HTS.out; unfold maxLen; omega) (by unfold maxLen; omega)) (by simp) (by
                  intro x hx
                  simp only [List.mem_cons, List.not_mem_nil, or_false] at hx
                  rcases hx with rfl | rfl | rfl
                  · omega
                  · exact HTS.out
                  · omega)
                obtain ⟨C, hC⟩ : ∃ C, (!decide (NoClash [s, o.text, ask])) = C := ⟨_, rfl⟩
                rw [hC] at hcl
                have HC := Lib.hid hC
                have HCL := Lib.hid hcl
                have hsum := fun (w' : World) => sum1At s (by omega) w' 9
                rw [hsd] at hsum
                have HSS := Lib.hid hsum
                have HS0 := Lib.hid hs0
                have HSD := Lib.hid hsd
                have he1 : s.toList.isEmpty = false := by have := toList_ne hs0; simpa using this
                clear hC hcl hsum hs hs64 hsd hs0
                go_wp2_with fail
                refine HCL.out.mono ?_
                rintro e w11 ⟨rfl, hk⟩
                have hk11 : Kp No w10 w11 := ((Kp.refl No w10).alloc _).trans' hk
                have HV11 := Lib.hid (HV10.out.kept hk11)
                have HB11 := Lib.hid (Blk.kept HB10.out hk11 (fun x => x))
                have HT11 := Lib.hid (Blk.kept HT10.out hk11 (fun x => x))
                clear hk hk11 y1 HV10 HB10 HT10 HCL
                cases C with
                | true =>
                  clear HCS HC HSS HS0 HSD he1
                  go_wp2_with fail
                  go_ret
                  exact ⟨rfl, HV11.out.kp⟩
                | false =>
                  have hnc : NoClash [s, o.text, ask] := by have := HC.out; simpa using this
                  have y1 : w11.cell? ⟨g, 1, none⟩ = some _ := Blk.cell HB11.out rfl
                  by_cases hqH : q = H
                  · have hso : s = o.text := hnc s (by simp) o.text (by simp) (by show digest s = digest o.text; rw [HSD.out, HH.out, hqH])
                    have hqb : (q.toList == H.toList) = true := by rw [toList_beq]; exact decide_eq_true hqH
                    have hsb : (s.toList == o.text.toList) = true := by rw [toList_beq]; exact decide_eq_true hso
                    clear hnc HC HS0 HSD HCS hqH hso
                    go_wp2_with fail
                    refine (HSS.out _).mono ?_
                    rintro e w12 ⟨rfl, hk12⟩
                    have HV12 := Lib.hid (HV11.out.kept hk12)
                    have HB12 := Lib.hid (Blk.kept HB11.out hk12 (fun x => x))
                    have HT12 := Lib.hid (Blk.kept HT11.out hk12 (fun x => x))
                    clear hk12 HV11 HB11 HT11 y1
                    have y1 : w12.cell? ⟨g, 1, none⟩ = some _ := Blk.cell HB12.out rfl
                    go_wp2_with fail
                    refine (HSUM.out _).mono ?_
                    rintro e w13 ⟨rfl, hk13⟩
                    have HV13 := Lib.hid (HV12.out.kept hk13)
                    have HB13 := Lib.hid (Blk.kept HB12.out hk13 (fun x => x))
                    have HT13 := Lib.hid (Blk.kept HT12.out hk13 (fun x => x))
                    clear hk13 HV12 HB12 HT12 y1
                    have y1 : w13.cell? ⟨g, 1, none⟩ = some _ := Blk.cell HB13.out rfl
                    go_wp2_with fail
                    go_roundw
                    case rel => exact ⟨j + 1, R.2, by omega, by go_num, HV13.out, HZL2.out, HB13, HT13⟩
                    case measure => simp [intOf]; omega
                  · have hqb : (q.toList == H.toList) = false := by rw [toList_beq]; exact decide_eq_false hqH
                    clear hnc HC HS0 HSD HCS hqH
                    go_wp2_with fail
                    refine (HSS.out _).mono ?_
                    rintro e w12 ⟨rfl, hk12⟩
                    have HV12 := Lib.hid (HV11.out.kept hk12)
                    have HB12 := Lib.hid (Blk.kept HB11.out hk12 (fun x => x))
                    have HT12 := Lib.hid (Blk.kept HT11.out hk12 (fun x => x))
                    clear hk12 HV11 HB11 HT11 y1
                    have y1 : w12.cell? ⟨g, 1, none⟩ = some _ := Blk.cell HB12.out rfl
                    go_wp2_with fail
                    refine (HSUM.out _).mono ?_
                    rintro e w13 ⟨rfl, hk13⟩
                    have HV13 := Lib.hid (HV12.out.kept hk13)
                    have HB13 := Lib.hid (Blk.kept HB12.out hk13 (fun x => x))
                    have HT13 := Lib.hid (Blk.kept HT12.out hk13 (fun x => x))
                    clear hk13 HV12 HB12 HT12 y1
                    go_wp2_with fail
                    go_roundw
                    case rel => exact ⟨j + 1, R.2, by omega, by go_num, HV13.out, HZL2.out, HB13, HT13⟩
                    case measure => simp [intOf]; omega
              · rw [her]
                have he1 : (er != 0) = true := by simpa using hne
                have he2 : (er == 0) = false := by simpa using hne
                clear her HCS
                go_wp2_with fail
                go_roundw
                case rel => exact ⟨j + 1, R.2, by omega, by go_num, HV10.out, HZL2.out, HB10, HT10⟩
                case measure => simp [intOf]; omega
            · obtain rfl : j = 2 := by omega
              go_wp2_with fail
              go_roundw
              case rel => exact ⟨i + 1, Z, by omega, by go_num, HV.out, HZL.out⟩
              case measure => simp [intOf]; omega
        · go_wp2_with fail
          obtain ⟨w7, hw7⟩ : ∃ w7, w6 = w7 := ⟨_, rfl⟩
          obtain ⟨Y, hY⟩ : ∃ Y, X = Y := ⟨_, rfl⟩
          have HYL : Hid (Y.kept.length ≤ i + 1) := Lib.hid (by rw [← hY]; have := HKL.out; omega)
          rw [hw7] at HB6 HV6 ⊢
          rw [hY] at HV6
          have HV7 := HV6
          have HB7 := HB6
          clear y0 y1 y4 hw7 hY HB6 HV6
          go_wp2_with fail
          refine (HSUMA.out _).mono ?_
          rintro e w8 ⟨rfl, hk8⟩
          have HV8 := Lib.hid (HV7.out.kept hk8)
          have HB8 := Lib.hid (Blk.kept HB7.out hk8 (fun x => x))
          clear hk8
          go_wp2_with fail
          obtain ⟨w9, hw9⟩ : ∃ w9, w8.alloc (.cells #[.string H, .string HA] 9) = w9 := ⟨_, rfl⟩
          have hb9 : Blk w9 w8.heap.size 9 [.string H, .string HA] := by rw [← hw9]; exact Blk.new w8 _ _
          have hk9 : Kp No w8 w9 := by rw [← hw9]; exact (Kp.refl _ _).alloc _
          have HT9 := Lib.hid hb9
          have HV9 := Lib.hid (HV8.out.kept hk9)
          have HB9 := Lib.hid (Blk.kept HB8.out hk9 (fun x => x))
          obtain ⟨g2, hg2⟩ : ∃ g2, w8.heap.size = g2 := ⟨_, rfl⟩
          rw [hg2] at HT9
          rw [hw9, hg2]
          clear hb9 hk9 hw9 hg2 HV8 HB8 HV7 HB7
          generalize wr = w13 at *
          go_loopw [73] (fun jv wr => ∃ (j : Nat) (Z : VV), j ≤ 2 ∧ jv = .int .i64 (j : Int) ∧ VNew W wr v d Z ∧ Z.kept.length ≤ i + 1 ∧ Hid (Blk wr g 59 [.int .i64 K, .string o.text, .slice A2 o.more.length c2, .string o.name, .int .i64 o.n, .slice A5 o.keeps.length c5]) ∧ Hid (Blk wr g2 9 [.string H, .string HA])) (fun jv _ => 2 - (intOf jv).toNat)
          case atStart => exact ⟨0, Y, by omega, rfl, HV9.out, HYL.out, HB9, HT9⟩
          case round =>
            clear HV9 HB9 HT9
            obtain ⟨j, Z, hj, rfl, hv, hzl, HB, HT⟩ := hrel
            have HV := Lib.hid hv
            have HZL := Lib.hid hzl
            clear hv hzl
            by_cases hj2 : j < 2
            · have hji : (j : Int) < 2 := by omega
              obtain ⟨q, hq, hqd⟩ : ∃ q, wr.cell? ⟨g2, j, none⟩ = some (.string q) ∧ (q = H ∨ q = HA) := by
                rcases (by omega : j = 0 ∨ j = 1) with rfl | rfl
                · exact ⟨H, Blk.cell HT.out rfl, .inl rfl⟩
                · exact ⟨HA, Blk.cell HT.out rfl, .inr rfl⟩
              have hqs : q.size = 32 := by rcases hqd with rfl | rfl; exact HHS.out; exact HHAS.out
              have hc := g_get q wr HV.out (by omega)
              have hzl := getV_len q Z
              obtain ⟨R, hR⟩ : ∃ R, getV q Z = R := ⟨_, rfl⟩
              have hcs := getV_cases q Z
              rw [hR] at hc hzl hcs
              have HZL2 : Hid (R.2.kept.length ≤ i + 1) := Lib.hid (by have := HZL.out; omega)
              have HC := Lib.hid hc
              have HCS := Lib.hid hcs
              clear hR hc hzl hcs
              go_wp2_with fail
              refine HC.out.mono ?_
              rintro e w10 ⟨rfl, hv, hkv⟩
              have HV10 := Lib.hid hv
              have HB10 := Lib.hid (hkv.blk HB.out (by decide))
              have HT10 := Lib.hid (hkv.blk HT.out (by decide))
              clear hv hkv HC hq HB HT HV
              have y1 : w10.cell? ⟨g, 1, none⟩ = some _ := Blk.cell HB10.out rfl
              rcases HCS.out with ⟨s, hs, hs0, hs64, hsd⟩ | ⟨er, her, hne⟩
              · rw [hs]
                have hcl := r_clash [s, o.text, ask] (some ⟨w10.heap.size, 0, none⟩) 3 (w10.alloc (.cells #[.string s, .string o.text, .string ask] 9)) _ (list3 s o.text ask w10 9 (by unfold maxLen; omega) (by have := HTS.out; unfold maxLen; omega) (by unfold maxLen; omega)) (by simp) (by
                  intro x hx
                  simp only [List.mem_cons, List.not_mem_nil, or_false] at hx
                  rcases hx with rfl | rfl | rfl
                  · omega
                  · exact HTS.out
                  · omega)
                obtain ⟨C, hC⟩ : ∃ C, (!decide (NoClash [s, o.text, ask])) = C := ⟨_, rfl⟩
                rw [hC] at hcl
                have HC := Lib.hid hC
                have HCL := Lib.hid hcl
                have hsum := fun (w' : World) => sum1At s (by omega) w' 9
                rw [hsd] at hsum
                have HSS := Lib.hid hsum
                have HS0 := Lib.hid hs0
                have HSD := Lib.hid hsd
                have he1 : s.toList.isEmpty = false := by have := toList_ne hs0; simpa using this
                clear hC hcl hsum hs hs64 hsd hs0
                go_wp2_with fail
                refine HCL.out.mono ?_
                rintro e w11 ⟨rfl, hk⟩
                have hk11 : Kp No w10 w11 := ((Kp.refl No w10).alloc _).trans' hk
                have HV11 := Lib.hid (HV10.out.kept hk11)
                have HB11 := Lib.hid (Blk.kept HB10.out hk11 (fun x => x))
                have HT11 := Lib.hid (Blk.kept HT10.out hk11 (fun x => x))
                clear hk hk11 y1 HV10 HB10 HT10 HCL
                cases C with
                | true =>
                  clear HCS HC HSS HS0 HSD he1
                  go_wp2_with fail
                  go_ret
                  exact ⟨rfl, HV11.out.kp⟩
                | false =>
                  have hnc : NoClash [s, o.text, ask] := by have := HC.out; simpa using this
                  have y1 : w11.cell? ⟨g, 1, none⟩ = some _ := Blk.cell HB11.out rfl
                  by_cases hqH : q = H
                  · have hso : s = o.text := hnc s (by simp) o.text (by simp) (by show digest s = digest o.text; rw [HSD.out, HH.out, hqH])
                    have hqb : (q.toList == H.toList) = true := by rw [toList_beq]; exact decide_eq_true hqH
                    have hsb : (s.toList == o.text.toList) = true := by rw [toList_beq]; exact decide_eq_true hso
                    clear hnc HC HS0 HSD HCS hqH hso
                    go_wp2_with fail
                    refine (HSS.out _).mono ?_
                    rintro e w12 ⟨rfl, hk12⟩
                    have HV12 := Lib.hid (HV11.out.kept hk12)
                    have HB12 := Lib.hid (Blk.kept HB11.out hk12 (fun x => x))
                    have HT12 := Lib.hid (Blk.kept HT11.out hk12 (fun x => x))
                    clear hk12 HV11 HB11 HT11 y1
                    have y1 : w12.cell? ⟨g, 1, none⟩ = some _ := Blk.cell HB12.out rfl
                    go_wp2_with fail
                    refine (HSUM.out _).mono ?_
                    rintro e w13 ⟨rfl, hk13⟩
                    have HV13 := Lib.hid (HV12.out.kept hk13)
                    have HB13 := Lib.hid (Blk.kept HB12.out hk13 (fun x => x))
                    have HT13 := Lib.hid (Blk.kept HT12.out hk13 (fun x => x))
                    clear hk13 HV12 HB12 HT12 y1
                    have y1 : w13.cell? ⟨g, 1, none⟩ = some _ := Blk.cell HB13.out rfl
                    go_wp2_with fail
                    go_roundw
                    case rel => exact ⟨j + 1, R.2, by omega, by go_num, HV13.out, HZL2.out, HB13, HT13⟩
                    case measure => simp [intOf]; omega
                  · have hqb : (q.toList == H.toList) = false := by rw [toList_beq]; exact decide_eq_false hqH
                    clear hnc HC HS0 HSD HCS hqH
                    go_wp2_with fail
                    refine (HSS.out _).mono ?_
                    rintro e w12 ⟨rfl, hk12⟩
                    have HV12 := Lib.hid (HV11.out.kept hk12)
                    have HB12 := Lib.hid (Blk.kept HB11.out hk12 (fun x => x))
                    have HT12 := Lib.hid (Blk.kept HT11.out hk12 (fun x => x))
                    clear hk12 HV11 HB11 HT11 y1
                    have y1 : w12.cell? ⟨g, 1, none⟩ = some _ := Blk.cell HB12.out rfl
                    go_wp2_with fail
                    refine (HSUM.out _).mono ?_
                    rintro e w13 ⟨rfl, hk13⟩
                    have HV13 := Lib.hid (HV12.out.kept hk13)
                    have HB13 := Lib.hid (Blk.kept HB12.out hk13 (fun x => x))
                    have HT13 := Lib.hid (Blk.kept HT12.out hk13 (fun x => x))
                    clear hk13 HV12 HB12 HT12 y1
                    go_wp2_with fail
                    go_roundw
                    case rel => exact ⟨j + 1, R.2, by omega, by go_num, HV13.out, HZL2.out, HB13, HT13⟩
                    case measure => simp [intOf]; omega
              · rw [her]
                have he1 : (er != 0) = true := by simpa using hne
                have he2 : (er == 0) = false := by simpa using hne
                clear her HCS
                go_wp2_with fail
                go_roundw
                case rel => exact ⟨j + 1, R.2, by omega, by go_num, HV10.out, HZL2.out, HB10, HT10⟩
                case measure => simp [intOf]; omega
            · obtain rfl : j = 2 := by omega
              go_wp2_with fail
              go_roundw
              case rel => exact ⟨i + 1, Z, by omega, by go_num, HV.out, HZL.out⟩
              case measure => simp [intOf]; omega
      · obtain rfl : i = l.length := by omega
        go_wp2_with fail
        go_ret
        exact ⟨rfl, HV.out.kp⟩
theorem vaultTrue_holds : Rows.VaultTrueUptoSaid := vaultTrueUpto_of vaultTrue_walk
#print axioms vaultTrue_holds
end
end Go.Proofs.Ytflodiljgphkdaa
