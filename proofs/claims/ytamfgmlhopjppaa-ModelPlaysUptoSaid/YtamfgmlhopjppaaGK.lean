/-
  Put together: ModH, ModE, OrdL.
-/
import Derived.Test.YtamfgmlhopjppaaGJ
import Derived.Test.YtamfgmlhopjppaaGC
namespace Go.Proofs.Ytamfgmlhopjppaa
section
open Go.RowKit Go.ChangeShapes Go.WideShapes Go.ChangeAt

theorem live_look2 {w : World} {S : Nat → Prop} {b : Nat} {V : List (ByteArray × OpL)} (h : MapRp Rp.opl w S b Value.string V) (nm : ByteArray) : ∃ (o : OpL) (A : Option Addr) (n c : Nat) (B : Bool),
    (∀ w', Kp No w w' → (Instr.lookup 80 (.map (some b)) (.string nm) true).run Try.prog w' = .ok (.tuple #[opV o (.slice A n c), .bool B]) w') ∧ n = o.hashes.length ∧ Rp.str.slice.R w S [.slice A n c] o.hashes ∧ ((B = true ∧ mget nm V = some o) ∨ (B = false ∧ mget nm V = none ∧ o = zeroO)) := by
  obtain ⟨u, B, h3, h4⟩ := h.look_all (P := Try.prog) key_text Try.underlying80 nm zero_opM
  rcases h4 with ⟨rfl, a, cs, h5, rfl, hv, rfl, _, h6⟩ | ⟨rfl, h5, rfl⟩
  · obtain ⟨Av, cv, hv', _⟩ := id h6
    simp only [List.cons.injEq, and_true] at hv'
    subst hv'
    exact ⟨a, Av, _, cv, true, h3, rfl, h6, .inl ⟨rfl, h5⟩⟩
  · exact ⟨zeroO, none, 0, 0, false, h3, rfl, Rp.none_ _ _ _, .inr ⟨rfl, h5, rfl⟩⟩
/-- what Find tells -/
def findM (M : MV) (p : Int × Int) (nm : ByteArray) : Option OpL := mget nm (liveL1 (pathD M p))
set_option maxRecDepth 100000 in
set_option maxHeartbeats 4000000 in
theorem m_find (p : Int × Int) (nm : ByteArray) (m : Nat) (M : MV) (F : Nat → Prop) (w : World) (hM : MAt w m M F) (hok : OkM M) : Calls Try.prog 20 #[.pointer (some ⟨m, 0, none⟩), spotV p, .string nm] w fun e w' => ∃ (A : Option Addr) (c : Nat), e = .returned (.tuple #[opV ((findM M p nm).getD zeroO) (.slice A ((findM M p nm).getD zeroO).hashes.length c), .bool (findM M p nm).isSome]) ∧ Rp.str.slice.R w' (fun k => w.heap.size ≤ k) [.slice A ((findM M p nm).getD zeroO).hashes.length c] ((findM M p nm).getD zeroO).hashes ∧ Kp No w w' := by
  have HLV := fun w' (hk : Kp No w w') => Lib.hid (m_live p m M F w' (hM.keptNo hk) hok)
  obtain ⟨R, hR⟩ : ∃ R, findM M p nm = R := ⟨_, rfl⟩
  rw [hR]
  have HRR := Lib.hid hR
  unfold spotV at *
  clear hM hok hR
  go_enter Try.func20, Try.ntmps20
  go_wp2_with fail
  obtain ⟨at_, hat⟩ : ∃ v, w.heap.size = v := ⟨_, rfl⟩
  obtain ⟨y, hy⟩ : ∃ v, w.heap.size + 1 = v := ⟨_, rfl⟩
  obtain ⟨wa, hwa⟩ : ∃ v, (w.alloc (.cells #[.int .i64 p.1, .int .i64 p.2] 37)).alloc (.cells #[.int .i64 0, .int .i64 0, .int .i64 0, .int .i64 0, .int .i64 0, .int .i64 0, .string { data := #[] }, .int .i64 0, .slice none 0 0] 58) = v := ⟨_, rfl⟩
  have hka : Kp No w wa := by rw [← hwa]; exact ((Kp.refl _ _).alloc _).alloc _
  have hby : Blk wa y 58 [.int .i64 0, .int .i64 0, .int .i64 0, .int .i64 0, .int .i64 0, .int .i64 0, .string { data := #[] }, .int .i64 0, .slice none 0 0] := by
    have h := Blk.new (w.alloc (.cells #[.int .i64 p.1, .int .i64 p.2] 37)) [.int .i64 0, .int .i64 0, .int .i64 0, .int .i64 0, .int .i64 0, .int .i64 0, .string { data := #[] }, .int .i64 0, .slice none 0 0] 58
    rw [← hwa, ← hy]
    simpa using h
  try rw [hwa]
  try rw [hy]
  try rw [hat]
  refine (HLV wa hka).out.mono ?_
  rintro e w2 ⟨b, rfl, _, hmp, hk2⟩
  obtain ⟨o, A, n, c, B, hlk, hn, hrd, hB⟩ := live_look2 hmp nm
  have hRB : R = (if B = true then some o else none) ∧ R.getD zeroO = o ∧ R.isSome = B := by
    have h := HRR.out
    unfold findM at h
    rcases hB with ⟨rfl, h1⟩ | ⟨rfl, h1, rfl⟩
    · rw [← h, h1]; exact ⟨rfl, rfl, rfl⟩
    · rw [← h, h1]; exact ⟨rfl, rfl, rfl⟩
  have HR1 := Lib.hid hRB.2.1
  have HR2 := Lib.hid hRB.2.2
  clear hRB
  subst hn
  unfold opV at hlk
  have hl := hlk w2 (Kp.refl _ _)
  go_upto_region 3 with fail
  obtain ⟨z, hz⟩ : ∃ v, w2.heap.size = v := ⟨_, rfl⟩
  obtain ⟨w3, hw3⟩ : ∃ v, w2.alloc (.cells #[.int .i64 o.n, .int .i64 o.epoch, .int .i64 o.kind, .int .i64 o.site, .int .i64 o.client, .int .i64 o.seq, .string o.name, .int .i64 o.size, .slice A o.hashes.length c] 58) = v := ⟨_, rfl⟩
  have hk3 : Kp No w2 w3 := by rw [← hw3]; exact (Kp.refl _ _).alloc _
  have hbz : Blk w3 z 58 [.int .i64 o.n, .int .i64 o.epoch, .int .i64 o.kind, .int .i64 o.site, .int .i64 o.client, .int .i64 o.seq, .string o.name, .int .i64 o.size, .slice A o.hashes.length c] := by rw [← hw3, ← hz]; exact Blk.new w2 _ _
  try rw [hw3]
  try rw [hz]
  have hby3 := hby.kept (hk2.trans' hk3) (fun z => z)
  have hst := run_store_opAt w3 y 0 o A o.hashes.length c zeroO (.slice none 0 0) (fun k u hu => by
    have := hby3.cell (i := k) (u := u) hu
    simpa using this) (Blk.fr hby3)
  have hb4 := wset_blk (vs := o.cells (.slice A o.hashes.length c)) (o := 0) hby3
  have hk4 : Kp (· = y) w3 (wset w3 y 0 (o.cells (.slice A o.hashes.length c))) := wset_kp
  have hyw : w.heap.size ≤ y := by omega
  have hyA : y < wa.heap.size := Blk.lt hby
  have hr4 : Rp.str.slice.R (wset w3 y 0 (o.cells (.slice A o.hashes.length c))) (fun k => w.heap.size ≤ k) [.slice A o.hashes.length c] o.hashes := Rp.str.slice.more (Rp.str.slice.kept (Rp.str.slice.keptNo hrd hk3) hk4 (fun k hk _ e => by have := hk.1; omega)) (fun k hk => by have := hk.1; have := hka.size; omega)
  obtain ⟨w4, hw4⟩ : ∃ v, wset w3 y 0 (o.cells (.slice A o.hashes.length c)) = v := ⟨_, rfl⟩
  rw [hw4] at hst hb4 hk4 hr4
  have HLD := Lib.hid (run_load_op hbz)
  have HST := Lib.hid hst
  have HR4 := Lib.hid hr4
  have HB4 : Hid (Blk w4 y 58 [.int .i64 o.n, .int .i64 o.epoch, .int .i64 o.kind, .int .i64 o.site, .int .i64 o.client, .int .i64 o.seq, .string o.name, .int .i64 o.size, .slice A o.hashes.length c]) := Lib.hid hb4
  have HK4 : Hid (Kp No w w4) := Lib.hid (((hka.trans' hk2).trans' hk3).trans hk4 (fun k hk e => by omega))
  clear hka hby hwa hmp hk2 hlk hB hl hk3 hbz hby3 hst hb4 hk4 hw4 hw3 hz hy hat HLV hrd hr4 hyw hyA
  go_wp2_with (first | (refine wpl_load (by first | rfl | go_simp) 58 _ rfl _ _ rfl HLD.out ?_; go_simp) | (refine wpl_store (by first | rfl | go_simp) 58 _ _ rfl _ _ rfl rfl HST.out ?_; go_simp))
  exact bodyPost_ret (results_ctM rfl _ _ y _ _ _ _ rfl HB4.out Try.underlying58 rfl (by kernel_rfl)) rfl ⟨A, c, by rw [HR1.out, HR2.out]; rfl, by rw [HR1.out]; exact HR4.out, HK4.out⟩
end

section
open Go.RowKit Go.ChangeShapes Go.WideShapes Go.ChangeAt

theorem row_lined : ∀ {l : List OpL} {n e s : Int}, rowGo n e s l = true → ∀ a ∈ linedL (n, e) l, a.an = a.op.n - 1 ∧ n + 1 ≤ a.op.n ∧ a.op.n ≤ n + (l.length : Int) ∧ a.op ∈ l
  | [], _, _, _, _, a, ha => by simp [linedL] at ha
  | o :: l, n, e, s, h, a, ha => by
    unfold rowGo at h
    rw [Bool.and_eq_true, decide_eq_true_iff] at h
    obtain ⟨h1, h2⟩ := h
    have hn : o.n = n + 1 := h1.2.1
    simp only [List.length_cons]
    unfold linedL at ha
    rcases List.mem_cons.1 ha with rfl | ha
    · refine ⟨?_, ?_, ?_, List.mem_cons_self⟩
      · show n = o.n - 1; omega
      · show n + 1 ≤ o.n; omega
      · show o.n ≤ _; omega
    · obtain ⟨h3, h4, h5, h6⟩ := row_lined h2 a ha
      exact ⟨h3, by omega, by omega, List.mem_cons_of_mem _ h6⟩
theorem OkM.putAll_ : ∀ {m : List LineL} {M : MV}, OkM M → (∀ a ∈ m, a.an = a.op.n - 1 ∧ 1 ≤ a.op.n ∧ a.op.n ≤ 1000000 ∧ a.op.hashes.length ≤ 1000000) → OkM { M with lines := putAll M.lines m }
  | [], M, h, _ => h
  | a :: m, M, h, hm => by
    have ha := hm a List.mem_cons_self
    have h1 : OkM { M with lines := mput a.place a M.lines } := by
      have hg : ∀ p l, mget p (mput a.place a M.lines) = some l → (p = a.place ∧ l = a) ∨ mget p M.lines = some l := fun p l hp => by
        rw [mget_put] at hp
        split at hp
        · rename_i e
          injection hp with hp
          exact .inl ⟨e, hp.symm⟩
        · exact .inr hp
      refine ⟨fun p l hp => ?_, fun p l hp => ?_, fun p l hp => ?_, fun p l hp => ?_⟩
      · rcases hg p l hp with ⟨rfl, rfl⟩ | hp
        · rfl
        · exact h.key p l hp
      · rcases hg p l hp with ⟨rfl, rfl⟩ | hp
        · exact ⟨ha.2.1, ha.2.2.1⟩
        · exact h.low p l hp
      · rcases hg p l hp with ⟨rfl, rfl⟩ | hp
        · exact ha.1
        · exact h.ahead p l hp
      · rcases hg p l hp with ⟨rfl, rfl⟩ | hp
        · exact ha.2.2.2
        · exact h.hashes p l hp
    exact OkM.putAll_ (m := m) (M := { M with lines := mput a.place a M.lines }) h1 (fun b hb => hm b (List.mem_cons_of_mem _ hb))
theorem OkM.see {M : MV} (h : OkM M) {l : List OpL} (hll : l.length ≤ 1000000) (hsm : ∀ o ∈ l, o.hashes.length ≤ 1000000) : OkM (seeL l M).2 := by
  unfold seeL
  split
  · exact h
  · split
    · exact h
    · rename_i hr _
      have hr2 : rowGo 0 0 (-1) l = true := by
        have : rowB 0 0 l = true := by simpa using hr
        unfold rowB at this
        exact (Bool.and_eq_true_iff.1 this).2
      exact OkM.putAll_ h (fun a ha => by
        obtain ⟨h1, h2, h3, h4⟩ := row_lined hr2 a ha
        exact ⟨h1, by omega, by omega, hsm _ h4⟩)
theorem OkM.new : OkM ⟨[], []⟩ := ⟨fun _ _ h => (by cases h), fun _ _ h => (by cases h), fun _ _ h => (by cases h), fun _ _ h => (by cases h)⟩
theorem OkM.asked {M : MV} (h : OkM M) (l : List AskL) : OkM { M with asks := l } := ⟨h.key, h.low, h.ahead, h.hashes⟩
/-- the operations of redoubtlaw26.awake -/
def opA : OpL := ⟨1, 1, 3, 0, 0, 0, ByteArray.empty, 0, []⟩
def opB : OpL := ⟨2, 1, 1, 0, 0, 1, ⟨#[97]⟩, 0, []⟩
def opC : OpL := ⟨2, 2, 3, 0, 0, 0, ByteArray.empty, 0, []⟩
def opD : OpL := ⟨2, 1, 1, 0, 0, 1, ⟨#[98]⟩, 0, []⟩
def askA : AskL := ⟨1, 0, 1, ⟨#[97]⟩, ByteArray.empty, 0, 0⟩
def M1 : MV := (seeL [opA, opB] ⟨[], []⟩).2
def M2 : MV := (seeL [opA, opC] M1).2
def M3 : MV := { M2 with asks := [askA] }
theorem see1 : (seeL [opA, opB] ⟨[], []⟩).1 = 0 := by decide +kernel
theorem see2 : (seeL [opA, opC] M1).1 = 0 := by decide +kernel
theorem see3 : seeL [opA, opD] M2 = (200, M2) := by
  unfold seeL
  rw [if_neg (by decide +kernel), if_pos (by decide +kernel)]
theorem see1' : (seeL [opA, opC] ⟨[], []⟩).1 = 0 := by decide +kernel
theorem see2' : (seeL [opA, opB] (seeL [opA, opC] ⟨[], []⟩).2).1 = 0 := by decide +kernel
theorem names_a : namesM M2 (2, 1) = [⟨#[97]⟩] := by decide +kernel
theorem path_a : (pathM M2 (2, 1)).isSome = true := by decide +kernel
theorem path_b : (pathM M2 (3, 1)).isSome = false := by decide +kernel
theorem judge_a : judge4 M3 (2, 1) ⟨#[97]⟩ = 0 := by decide +kernel
theorem judge_b : judge4 M3 (2, 2) ⟨#[97]⟩ = 200 := by decide +kernel
end

section
open Go.RowKit Go.ChangeShapes Go.WideShapes Go.ChangeAt

/-- all of one model's lines are the other's -/
def SubM (M A : MV) : Prop := ∀ p x, mget p M.lines = some x → mget p A.lines = some x
/-- a row's lines are there -/
def HasM (M : MV) (l : List OpL) : Prop := ∀ a ∈ linedL (0, 0) l, mget a.place M.lines = some a
theorem SubM.refl (M : MV) : SubM M M := fun _ _ h => h
theorem SubM.trans {M A B : MV} (h : SubM M A) (h2 : SubM A B) : SubM M B := fun p x hx => h2 p x (h p x hx)
theorem HasM.sub {M A : MV} {l : List OpL} (h : HasM M l) (hs : SubM M A) : HasM A l := fun a ha => hs _ _ (h a ha)
theorem mget_putAll_not : ∀ {m : List LineL} {ls : List ((Int × Int) × LineL)} {p : Int × Int}, (∀ a ∈ m, p ≠ a.place) → mget p (putAll ls m) = mget p ls
  | [], _, _, _ => rfl
  | a :: m, ls, p, h => by
    show mget p (putAll (mput a.place a ls) m) = _
    rw [mget_putAll_not (fun b hb => h b (List.mem_cons_of_mem _ hb)), mget_put, if_neg (h a List.mem_cons_self)]
theorem mget_putAll_mem : ∀ {m : List LineL} {ls : List ((Int × Int) × LineL)} {a : LineL}, m.Pairwise (fun x y => x.place ≠ y.place) → a ∈ m → mget a.place (putAll ls m) = some a
  | b :: m, ls, a, hp, h => by
    have hp2 := List.pairwise_cons.1 hp
    show mget a.place (putAll (mput b.place b ls) m) = _
    rcases List.mem_cons.1 h with rfl | h
    · rw [mget_putAll_not (fun c hc => hp2.1 c hc), mget_put, if_pos rfl]
    · exact mget_putAll_mem hp2.2 h
theorem row_places : ∀ {l : List OpL} {n e s : Int}, rowGo n e s l = true → (linedL (n, e) l).Pairwise (fun x y => x.place ≠ y.place)
  | [], _, _, _, _ => by unfold linedL; exact List.Pairwise.nil
  | o :: l, n, e, s, h => by
    unfold rowGo at h
    rw [Bool.and_eq_true, decide_eq_true_iff] at h
    unfold linedL
    refine List.pairwise_cons.2 ⟨fun b hb => ?_, row_places h.2⟩
    obtain ⟨_, h3, _, _⟩ := row_lined h.2 b hb
    intro e1
    have e2 : o.n = b.op.n := congrArg Prod.fst e1
    omega
theorem eqP_line {a b : LineL} (hp : a.place = b.place) (h1 : (a.an, a.ae) = (b.an, b.ae)) (h2 : EqP a.op b.op) : a = b := by
  obtain ⟨⟨n, e, k, s, c, q, nm, sz, hs⟩, an, ae⟩ := a
  obtain ⟨⟨n2, e2, k2, s2, c2, q2, nm2, sz2, hs2⟩, an2, ae2⟩ := b
  unfold LineL.place at hp
  unfold EqP at h2
  simp only [Prod.mk.injEq] at hp h1 h2
  obtain ⟨rfl, rfl⟩ := hp
  obtain ⟨rfl, rfl⟩ := h1
  obtain ⟨rfl, rfl, rfl, rfl, rfl, rfl, rfl⟩ := h2
  rfl
theorem row_go {l : List OpL} (h : rowB 0 0 l = true) : rowGo 0 0 (-1) l = true := by
  unfold rowB at h
  exact (Bool.and_eq_true_iff.1 h).2
/-- what is let in -/
theorem see_ok {M : MV} {l : List OpL} (hok : OkM M) (h : (seeL l M).1 = 0) :
    rowB 0 0 l = true ∧ SubM M (seeL l M).2 ∧ HasM (seeL l M).2 l ∧ ∀ p x, mget p (seeL l M).2.lines = some x → mget p M.lines = some x ∨ (p = x.place ∧ x ∈ linedL (0, 0) l) := by
  unfold seeL at h ⊢
  split at h
  · cases h
  rename_i hr
  have hr : rowB 0 0 l = true := by simpa using hr
  split at h
  · cases h
  rename_i hc
  rw [if_neg (by rw [hr]; simp), if_neg hc]
  have hc2 : ∀ a ∈ linedL (0, 0) l, clash M.lines a = false := fun a ha => by
    cases hq : clash M.lines a with
    | false => rfl
    | true => exact absurd (List.any_eq_true.2 ⟨a, ha, hq⟩) hc
  have hpw := row_places (row_go hr)
  have hhas : ∀ a ∈ linedL (0, 0) l, mget a.place (putAll M.lines (linedL (0, 0) l)) = some a := fun a ha => mget_putAll_mem hpw ha
  have hwas : ∀ a ∈ linedL (0, 0) l, ∀ x, mget a.place M.lines = some x → x = a := fun a ha x hx => by
    have h1 := hc2 a ha
    unfold clash at h1
    rw [hx] at h1
    simp only [Bool.not_eq_false', Bool.and_eq_true, decide_eq_true_iff] at h1
    exact eqP_line (hok.key _ _ hx).symm h1.1 h1.2
  refine ⟨hr, fun p x hx => ?_, hhas, fun p x hx => ?_⟩
  · by_cases hm : ∃ a ∈ linedL (0, 0) l, p = a.place
    · obtain ⟨a, ha, rfl⟩ := hm
      rw [hwas a ha x hx]
      exact hhas a ha
    · show mget p (putAll M.lines (linedL (0, 0) l)) = _
      rw [mget_putAll_not (fun a ha e => hm ⟨a, ha, e⟩)]
      exact hx
  · by_cases hm : ∃ a ∈ linedL (0, 0) l, p = a.place
    · obtain ⟨a, ha, rfl⟩ := hm
      have hx2 : mget a.place (putAll M.lines (linedL (0, 0) l)) = some x := hx
      rw [hhas a ha] at hx2
      injection hx2 with hx2
      subst hx2
      exact .inr ⟨rfl, ha⟩
    · have hx2 : mget p (putAll M.lines (linedL (0, 0) l)) = some x := hx
      rw [mget_putAll_not (fun a ha e => hm ⟨a, ha, e⟩)] at hx2
      exact .inl hx2
/-- what fits into one tree is let in -/
theorem see_fits {M A : MV} {l : List OpL} (hr : rowB 0 0 l = true) (hs : SubM M A) (hh : HasM A l) : (seeL l M).1 = 0 := by
  unfold seeL
  rw [if_neg (by rw [hr]; simp)]
  have hc : ¬ (linedL (0, 0) l).any (clash M.lines) = true := fun h => by
    obtain ⟨a, ha, h1⟩ := List.any_eq_true.1 h
    unfold clash at h1
    cases hx : mget a.place M.lines with
    | none => rw [hx] at h1; cases h1
    | some x =>
      rw [hx] at h1
      have h2 := hs _ _ hx
      rw [hh a ha] at h2
      injection h2 with h2
      subst h2
      have h3 : decide (EqP a.op a.op) = true := decide_eq_true ⟨rfl, rfl, rfl, rfl, rfl, rfl, rfl⟩
      simp [h3] at h1
  rw [if_neg hc]
/-- a tree that holds a model and the row still holds it when the row was seen -/
theorem see_in {M A : MV} {l : List OpL} (hok : OkM M) (hr : rowB 0 0 l = true) (hs : SubM M A) (hh : HasM A l) : SubM (seeL l M).2 A := by
  intro p x hx
  obtain ⟨_, _, h3, h4⟩ := see_ok hok (see_fits hr hs hh)
  rcases h4 p x hx with h | ⟨rfl, h⟩
  · exact hs _ _ h
  · exact hh x h
/-- each line of a model stands in a row that the model has -/
def FromM (M : MV) (rows : List (List OpL)) : Prop := ∀ p x, mget p M.lines = some x → ∃ l ∈ rows, rowB 0 0 l = true ∧ HasM M l ∧ p = x.place ∧ x ∈ linedL (0, 0) l
theorem FromM.nil : FromM ⟨[], []⟩ [] := fun p x h => by cases h
theorem FromM.see {M : MV} {rows : List (List OpL)} {l : List OpL} (hok : OkM M) (h : FromM M rows) (hs : (seeL l M).1 = 0) : FromM (seeL l M).2 (rows ++ [l]) := by
  obtain ⟨h1, h2, h3, h4⟩ := see_ok hok hs
  intro p x hx
  rcases h4 p x hx with h5 | ⟨h5, h6⟩
  · obtain ⟨k, hk, hr, hh, hp, hm⟩ := h p x h5
    exact ⟨k, List.mem_append_left _ hk, hr, hh.sub h2, hp, hm⟩
  · exact ⟨l, List.mem_append_right _ List.mem_cons_self, h1, h3, h5, h6⟩
theorem FromM.more {M : MV} {rows rows' : List (List OpL)} (h : FromM M rows) (hs : ∀ l ∈ rows, l ∈ rows') : FromM M rows' := fun p x hx => by
  obtain ⟨k, hk, hr⟩ := h p x hx
  exact ⟨k, hs k hk, hr⟩
theorem linedL_get : ∀ {l : List OpL} {p : Int × Int} {i : Nat} {o : OpL}, l[i]? = some o → (linedL p l)[i]? = some ⟨o, (lastP p (l.take i)).1, (lastP p (l.take i)).2⟩
  | [], _, _, _, h => by simp at h
  | x :: l, p, 0, o, h => by
    injection h with h
    subst h
    rfl
  | x :: l, p, i + 1, o, h => by
    have h2 := linedL_get (p := (x.n, x.epoch)) (i := i) (o := o) (l := l) (by simpa using h)
    show (linedL (x.n, x.epoch) l)[i]? = _
    rw [h2]
    congr 1
    have : lastP (x.n, x.epoch) (l.take i) = lastP p ((x :: l).take (i + 1)) := by
      rw [List.take_succ_cons]
      unfold lastP
      cases hl : l.take i with
      | nil => rfl
      | cons y t =>
        cases hz : (y :: t).getLast? with
        | none => simp at hz
        | some z => simp only [List.getLast?_cons_cons, hz]
    rw [this]
theorem take_snocM {l : List OpL} {i : Nat} {o : OpL} (h : l[i]? = some o) : l.take (i + 1) = l.take i ++ [o] := by
  rw [List.take_add_one, h]; rfl
theorem row_low {l : List OpL} (h : rowB 0 0 l = true) {i : Nat} {o : OpL} (hi : l[i]? = some o) : o.n = (i : Int) + 1 := by
  have : ∀ {l : List OpL} {n e s : Int} {i : Nat} {o : OpL}, rowGo n e s l = true → l[i]? = some o → o.n = n + i + 1 := by
    intro l
    induction l with
    | nil => intro n e s i o _ hi; simp at hi
    | cons x l ih =>
      intro n e s i o h hi
      unfold rowGo at h
      rw [Bool.and_eq_true, decide_eq_true_iff] at h
      have hn : x.n = n + 1 := h.1.2.1
      cases i with
      | zero => injection hi with hi; subst hi; simpa using hn
      | succ i =>
        have := ih h.2 (by simpa using hi)
        push_cast
        omega
  have := this (row_go h) hi
  omega
/-- the path to a place of a row that is there -/
theorem path_has {M : MV} (hok : OkM M) {l : List OpL} (hr : rowB 0 0 l = true) (hh : HasM M l) : ∀ i, i ≤ l.length → pathM M (lastP (0, 0) (l.take i)) = some (l.take i)
  | 0, _ => by
    unfold pathM
    show (pathL M.lines _ (0, 0)).map _ = _
    rw [pathL_zero]
    simp
  | i + 1, hi => by
    have ih := path_has hok hr hh i (by omega)
    obtain ⟨o, ho⟩ : ∃ o, l[i]? = some o := ⟨_, List.getElem?_eq_getElem (by omega)⟩
    have hg := linedL_get (p := (0, 0)) ho
    have hm := hh _ (List.mem_of_getElem? hg)
    have hn := row_low hr ho
    rw [take_snocM ho, lastP_snoc]
    have hne : (o.n, o.epoch) ≠ ((0 : Int), (0 : Int)) := fun e => by
      have : o.n = 0 := congrArg Prod.fst e
      omega
    unfold pathM
    rw [pathL_some hok hne hm]
    unfold pathM at ih
    simp only at *
    cases hq : pathL M.lines (lastP (0, 0) (List.take i l)).1.toNat (lastP (0, 0) (List.take i l)) with
    | none => rw [hq] at ih; cases ih
    | some r =>
      rw [hq] at ih
      simp only [Option.map_some, Option.some.injEq] at ih ⊢
      show (o :: r).reverse = _
      rw [List.reverse_cons, ih]
theorem rowGo_takeM : ∀ {l : List OpL} {n e s : Int} (i : Nat), rowGo n e s l = true → rowGo n e s (l.take i) = true
  | [], _, _, _, i, _ => by simp [rowGo]
  | x :: l, n, e, s, 0, _ => by simp [rowGo]
  | x :: l, n, e, s, i + 1, h => by
    unfold rowGo at h
    rw [Bool.and_eq_true] at h
    rw [List.take_succ_cons]
    unfold rowGo
    rw [Bool.and_eq_true]
    exact ⟨h.1, rowGo_takeM i h.2⟩
theorem rowB_take {l : List OpL} (i : Nat) (h : rowB 0 0 l = true) : rowB 0 0 (l.take i) = true := by
  unfold rowB at h ⊢
  rw [Bool.and_eq_true] at h ⊢
  exact ⟨h.1, rowGo_takeM i h.2⟩
/-- what a path is -/
theorem path_from {M : MV} (hok : OkM M) {rows : List (List OpL)} (h : FromM M rows) {p : Int × Int} {P : List OpL} (hp : pathM M p = some P) : P = [] ∨ ∃ l ∈ rows, ∃ i, i ≤ l.length ∧ rowB 0 0 l = true ∧ P = l.take i := by
  by_cases h0 : p = (0, 0)
  · subst h0
    unfold pathM at hp
    rw [pathL_zero] at hp
    simp at hp
    exact .inl hp
  · cases hx : mget p M.lines with
    | none =>
      unfold pathM at hp
      rw [pathL_none h0 hx] at hp
      cases hp
    | some x =>
      obtain ⟨l, hl, hr, hh, rfl, hm⟩ := h p x hx
      obtain ⟨i, hi⟩ := List.getElem?_of_mem hm
      have hil : i < l.length := by have := (List.getElem?_eq_some_iff.1 hi).1; rw [linedL_length] at this; exact this
      obtain ⟨o, ho⟩ : ∃ o, l[i]? = some o := ⟨_, List.getElem?_eq_getElem hil⟩
      rw [linedL_get ho] at hi
      injection hi with hi
      have h2 := path_has hok hr hh (i + 1) (by omega)
      rw [take_snocM ho, lastP_snoc] at h2
      have h3 : x.place = (o.n, o.epoch) := by rw [← hi]; rfl
      rw [h3, h2] at hp
      injection hp with hp
      exact .inr ⟨l, hl, i + 1, by omega, hr, by rw [take_snocM ho]; exact hp.symm⟩
theorem path_row {M : MV} (hok : OkM M) {rows : List (List OpL)} (h : FromM M rows) {p : Int × Int} {P : List OpL} (hp : pathM M p = some P) : rowB 0 0 P = true := by
  rcases path_from hok h hp with rfl | ⟨l, _, i, _, hr, rfl⟩
  · rfl
  · exact rowB_take i hr
theorem pathL_congr {A B : List ((Int × Int) × LineL)} (h : ∀ p, mget p A = mget p B) : ∀ f p, pathL A f p = pathL B f p
  | 0, p => rfl
  | f + 1, p => by
    unfold pathL
    rw [h p]
    split
    · rfl
    · split
      · rfl
      · rw [pathL_congr h f]
theorem path_same {A B : MV} (h1 : SubM A B) (h2 : SubM B A) (p : Int × Int) : pathM A p = pathM B p := by
  unfold pathM
  rw [pathL_congr (fun q => ?_)]
  cases ha : mget q A.lines with
  | some x => exact (h1 q x ha).symm
  | none =>
    cases hb : mget q B.lines with
    | none => rfl
    | some y => rw [h2 q y hb] at ha; cases ha
/-- many rows, one behind the other -/
def seeAll : List (List OpL) → MV → MV
  | [], M => M
  | l :: r, M => seeAll r (seeL l M).2
end
end Go.Proofs.Ytamfgmlhopjppaa
