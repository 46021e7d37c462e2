/-
  Two ledgers and what is sent between them, plainly: those that have an operation of the same number and epoch have the same ones up to it.
-/
import Derived.Test.YtbncblnchcmgbaaLedR
namespace Go.Proofs.Ytbncblnchcmgbaa
open Go.RowKit Go.ChangeShapes Go.WideShapes Go.ChangeAt

def sI (b : Bool) : Int := if b = true then 1 else 0
theorem sI_inj {a b : Bool} (h : sI a = sI b) : a = b := by
  cases a <;> cases b <;> first | rfl | (simp [sI] at h)
/-- two ledgers; the epochs that were given; what was sent, and to whom -/
structure TV where
  l : Bool → LV
  epoch : Int
  sent : List (CmdL × Bool)
def TV.put (T : TV) (s : Bool) (L : LV) : TV := { T with l := fun b => if b = s then L else T.l b }
theorem TV.put_same (T : TV) (s : Bool) (L : LV) : (T.put s L).l s = L := if_pos rfl
theorem TV.put_other (T : TV) {s b : Bool} (L : LV) (h : b ≠ s) : (T.put s L).l b = T.l b := if_neg h
def opZ : OpL := ⟨0, 0, 0, 0, 0, 0, ByteArray.empty, 0, []⟩
def reignC (e : Int) (s : Bool) : CmdL := ⟨4, e, sI s, opZ, 0, 0, [], 0⟩
def doC (e : Int) (s : Bool) (o : OpL) : CmdL := ⟨1, e, sI s, o, 0, 0, [], 0⟩
def sinceAt (l : List OpL) (a : Nat) : Int := if a = 0 then 0 else match l[a - 1]? with
  | some o => o.epoch
  | none => 0
def shipC (L : LV) (s : Bool) (a k : Nat) : CmdL := ⟨3, L.fold.hE, sI s, opZ, a, sinceAt L.ops a, (L.ops.drop a).take k, 0⟩
/-- each beginning of the row that ends with an operation of an epoch is a beginning of that epoch's row -/
def Fits (C : Int → List OpL) (l : List OpL) : Prop := ∀ (i : Nat) o, l[i]? = some o → l.take (i + 1) <+: C o.epoch
theorem Fits.match_ {C : Int → List OpL} {l m : List OpL} (hl : Fits C l) (hm : Fits C m) {i : Nat} {x y : OpL} (hx : l[i]? = some x) (hy : m[i]? = some y) (he : x.epoch = y.epoch) : l.take (i + 1) = m.take (i + 1) := by
  have h1 := hl i x hx
  have h2 := hm i y hy
  rw [he] at h1
  have l1 := (List.getElem?_eq_some_iff.1 hx).1
  have l2 := (List.getElem?_eq_some_iff.1 hy).1
  have h3 := List.prefix_of_prefix_length_le h1 h2 (by rw [List.length_take, List.length_take]; omega)
  exact h3.eq_of_length (by rw [List.length_take, List.length_take]; omega)
theorem Fits.mem {C : Int → List OpL} {l : List OpL} (hl : Fits C l) {o : OpL} (h : o ∈ l) : o ∈ C o.epoch := by
  obtain ⟨i, hi⟩ := List.getElem?_of_mem h
  obtain ⟨t, ht⟩ := hl i o hi
  rw [← ht, take_snoc hi]
  simp
theorem Fits.snoc {C : Int → List OpL} {l : List OpL} (hl : Fits C l) {o : OpL} (h : l ++ [o] <+: C o.epoch) : Fits C (l ++ [o]) := fun i x hx => by
  rcases Nat.lt_or_ge i l.length with hi | hi
  · rw [List.getElem?_append_left hi] at hx
    rw [List.take_append_of_le_length (by omega)]
    exact hl i x hx
  · have hlt := (List.getElem?_eq_some_iff.1 hx).1
    rw [List.length_append, List.length_singleton] at hlt
    obtain rfl : i = l.length := by omega
    rw [List.getElem?_append_right (Nat.le_refl _), Nat.sub_self] at hx
    injection hx with hx
    subst hx
    rw [List.take_of_length_le (by simp)]
    exact h
theorem Fits.take {C : Int → List OpL} {l : List OpL} (hl : Fits C l) (k : Nat) : Fits C (l.take k) := fun i x hx => by
  rw [List.getElem?_take] at hx
  split at hx
  · rename_i h
    rw [List.take_take, Nat.min_eq_left h]
    exact hl i x hx
  · cases hx
theorem Fits.mono {C C' : Int → List OpL} {l : List OpL} (hl : Fits C l) (h : ∀ o ∈ l, C o.epoch <+: C' o.epoch) : Fits C' l := fun i o ho => (hl i o ho).trans (h o (List.mem_of_getElem? ho))
/-- a letter: it goes on behind a beginning of a row of its sender's -/
structure Letter (C : Int → List OpL) (own : Int → Bool) (E : Int) (p : CmdL × Bool) : Prop where
  row : ∃ R a, p.1.after = ((a : Nat) : Int) ∧ a ≤ R.length ∧ p.1.since = sinceAt R a ∧ p.1.ops = R.drop a ∧ Fits C R ∧ rowGo 0 0 (-1) R = true
  own : own p.1.epoch = !p.2
  ne : p.1.epoch ≠ 0
  le : p.1.epoch ≤ E
structure TInv (T : TV) (C : Int → List OpL) (own : Int → Bool) : Prop where
  fit : ∀ b, Fits C (T.l b).ops
  sent : ∀ p ∈ T.sent, Letter C own T.epoch p
  hold : ∀ b, (T.l b).fold.hE = (T.l b).fence → (T.l b).fold.hS = sI b → own (T.l b).fence = b ∧ (T.l b).ops = C (T.l b).fence
  site : ∀ e, ∀ o ∈ C e, o.site = sI (own o.epoch) ∧ o.epoch ≤ T.epoch
  none : ∀ e, T.epoch < e → C e = []
  fence : ∀ b, (T.l b).fence ≤ T.epoch
  row : ∀ b, rowGo 0 0 (-1) (T.l b).ops = true
namespace TInv
variable {T : TV} {C : Int → List OpL} {own : Int → Bool}
theorem le (h : TInv T C own) {l : List OpL} (hl : Fits C l) {o : OpL} (ho : o ∈ l) : o.epoch ≤ T.epoch := (h.site _ o (hl.mem ho)).2
/-- who holds a row that fits: the owner of the epoch -/
theorem holder (h : TInv T C own) {l : List OpL} (hl : Fits C l) (hr : rowGo 0 0 (-1) l = true) (hne : (FV.fresh.take l).hE ≠ 0) : (FV.fresh.take l).hS = sI (own (FV.fresh.take l).hE) := by
  obtain ⟨h1, h2⟩ := rowHolder l hr
  have hn : l ≠ [] := by
    rintro rfl
    exact hne rfl
  obtain ⟨t, o, rfl⟩ : ∃ t o, l = t ++ [o] := ⟨l.dropLast, l.getLast hn, (List.dropLast_concat_getLast hn).symm⟩
  rw [rowEnd_snoc] at h1 h2
  rw [h1, h2 hn]
  exact (h.site _ o (hl.mem (by simp))).1
/-- one ledger is another one -/
theorem put_ (h : TInv T C own) (s : Bool) (L : LV) (hf : Fits C L.ops) (hr : rowGo 0 0 (-1) L.ops = true) (hfe : L.fence ≤ T.epoch) (hh : L.fold.hE = L.fence → L.fold.hS = sI s → own L.fence = s ∧ L.ops = C L.fence) : TInv (T.put s L) C own := by
  refine ⟨fun b => ?_, h.sent, fun b => ?_, h.site, h.none, fun b => ?_, fun b => ?_⟩
  all_goals
    by_cases e : b = s
    · subst e
      rw [TV.put_same]
      assumption
    · rw [TV.put_other T L e]
      first | exact h.fit b | exact h.hold b | exact h.fence b | exact h.row b
/-- a letter comes -/
theorem come (h : TInv T C own) {c : CmdL} {s : Bool} (hm : Letter C own T.epoch (c, s)) : TInv (T.put s (shipL c (T.l s)).2) C own := by
  obtain ⟨⟨R, a, ha, hal, hsi, hops, hfR, hrR⟩, hown, hne, hle⟩ := hm
  simp only at ha hsi hops hown hne hle
  have hfL := h.fit s
  have hrL := h.row s
  have key : ∀ (l : List OpL), Fits C l → rowGo 0 0 (-1) l = true → (FV.fresh.take l).hE = c.epoch → (FV.fresh.take l).hS = sI s → False := fun l hl hr h1 h2 => by
    have h3 := h.holder hl hr (by rw [h1]; exact hne)
    rw [h1, h2, hown] at h3
    have := sI_inj h3
    cases s <;> cases this
  have same : ∀ (L : LV), L.ops = (T.l s).ops → L.fence = c.epoch → TInv (T.put s L) C own := fun L h1 h2 => by
    refine h.put_ s L (h1 ▸ hfL) (h1 ▸ hrL) (h2 ▸ hle) (fun h3 h4 => ?_)
    unfold LV.fold at h3 h4
    rw [h1] at h3 h4
    exact absurd h4 (fun h4 => key _ hfL hrL (h3.trans h2) h4)
  unfold shipL
  split
  · exact h.put_ s _ hfL hrL (h.fence s) (h.hold s)
  simp only
  obtain ⟨L1, hL1⟩ : ∃ L1 : LV, { T.l s with fence := c.epoch } = L1 := ⟨_, rfl⟩
  have ho1 : L1.ops = (T.l s).ops := by rw [← hL1]
  have hf1 : L1.fence = c.epoch := by rw [← hL1]
  rw [hL1]
  split
  · rename_i hh
    split
    · exact same _ rfl rfl
    · rename_i o rest hd
      split
      · exact same _ ho1 hf1
      · obtain ⟨k, hk⟩ : ∃ k, hadL L1 c.ops = k := ⟨_, rfl⟩
        rw [hk, hops, List.drop_drop] at hd
        have hR : R[a + k]? = some o := by
          have := congrArg (fun l : List OpL => l[0]?) hd
          simpa [List.getElem?_drop] using this
        have hon := (rowGo_at hrR _ o hR).2
        have hlt := (List.getElem?_eq_some_iff.1 hR).1
        have htake : (T.l s).ops.take (a + k) = R.take (a + k) := by
          rcases Nat.eq_zero_or_pos (a + k) with h0 | h0
          · rw [h0]; rfl
          · have hx : ∃ q, R[a + k - 1]? = some q ∧ hasL ((a + k : Nat) : Int) q.epoch L1 = true := by
              rcases Nat.eq_zero_or_pos k with hk0 | hk0
              · subst hk0
                have hq := List.getElem?_eq_getElem (l := R) (i := a - 1) (by omega)
                refine ⟨_, hq, ?_⟩
                rw [ha, hsi] at hh
                unfold sinceAt at hh
                rw [if_neg (by omega), hq] at hh
                exact hh
              · obtain ⟨q, h1, h2⟩ := hadL_at' L1 c.ops (k - 1) (by omega)
                rw [hops, List.getElem?_drop, show a + (k - 1) = a + k - 1 by omega] at h1
                have h3 := (rowGo_at hrR _ q h1).2
                rw [show q.n = ((a + k : Nat) : Int) by omega] at h2
                exact ⟨q, h1, h2⟩
            obtain ⟨q, h1, h2⟩ := hx
            obtain ⟨p, h3, h4, _⟩ := hasL_spec h2 (by omega)
            rw [show (((a + k : Nat) : Int) - 1).toNat = a + k - 1 by omega, ho1] at h3
            have := hfL.match_ hfR h3 h1 h4
            rwa [show a + k - 1 + 1 = a + k by omega] at this
        obtain ⟨e1, _, e3, _, _⟩ := part_ops (o.n - 1).toNat L1
        have hall : (partL (o.n - 1).toNat L1).ops ++ o :: rest = R := by
          rw [e1, ho1, show (o.n - 1).toNat = a + k by omega, htake, ← hd, List.take_append_drop]
        refine h.put_ s _ ?_ ?_ ?_ (fun h3 h4 => ?_)
        · simp only [hall]; exact hfR
        · simp only [hall]; exact hrR
        · simp only [e3, hf1]; exact hle
        · unfold LV.fold at h3 h4
          simp only [hall, e3, hf1] at h3 h4
          exact absurd h4 (fun h4 => key R hfR hrR h3 h4)
  · exact same _ ho1 hf1
theorem put_self (h : TInv T C own) (s : Bool) : TInv (T.put s (T.l s)) C own := h.put_ s _ (h.fit s) (h.row s) (h.fence s) (h.hold s)
/-- an operation of the owner's, in an epoch's row -/
theorem putOp (h : TInv T C own) (s : Bool) (e : Int) (own' : Int → Bool) (E : Int) (o : OpL) (L : LV) (ho : L.ops = (T.l s).ops ++ [o]) (hoe : o.epoch = e) (hos : o.site = sI s) (hfe : L.fence = e) (hr : rowGo 0 0 (-1) L.ops = true) (hE : T.epoch ≤ E) (heE : e ≤ E)
    (hown : ∀ x, x ≠ e → own' x = own x) (hown2 : own' e = s) (hC : ∀ x, x ≤ T.epoch → x = e → own e = s ∧ C e = (T.l s).ops) :
    TInv { T.put s L with epoch := E } (fun x => if x = e then L.ops else C x) own' := by
  have hown3 : ∀ x, x ≤ T.epoch → own' x = own x := fun x hx => by
    by_cases h1 : x = e
    · rw [h1, hown2, (hC x hx h1).1]
    · exact hown x h1
  have hpre : ∀ x, x ≤ T.epoch → C x <+: (if x = e then L.ops else C x) := fun x hx => by
    split
    · rename_i h1
      rw [h1, (hC x hx h1).2, ho]
      exact List.prefix_append _ _
    · exact List.prefix_refl _
  have hmono : ∀ l, Fits C l → Fits (fun x => if x = e then L.ops else C x) l := fun l hl => hl.mono (fun o ho => hpre _ (h.le hl ho))
  have hfL : Fits (fun x => if x = e then L.ops else C x) L.ops := by
    have h1 : Fits (fun x => if x = e then L.ops else C x) ((T.l s).ops ++ [o]) := (hmono _ (h.fit s)).snoc (by
      show _ <+: (if o.epoch = e then L.ops else C o.epoch)
      rw [if_pos hoe, ho]
      exact List.prefix_refl _)
    rw [← ho] at h1
    exact h1
  refine ⟨fun b => ?_, fun p hp => ?_, fun b => ?_, fun x y hy => ?_, fun x hx => ?_, fun b => ?_, fun b => ?_⟩
  · by_cases eb : b = s
    · subst eb
      show Fits _ ((T.put b L).l b).ops
      rw [TV.put_same]; exact hfL
    · show Fits _ ((T.put s L).l b).ops
      rw [TV.put_other T L eb]; exact hmono _ (h.fit b)
  · obtain ⟨⟨R, a, h1, h2, h3, h4, h5, h6⟩, h7, h8, h9⟩ := h.sent p hp
    exact ⟨⟨R, a, h1, h2, h3, h4, hmono _ h5, h6⟩, by rw [hown3 _ h9]; exact h7, h8, Int.le_trans h9 hE⟩
  · show ((T.put s L).l b).fold.hE = _ → _ → _
    by_cases eb : b = s
    · subst eb
      rw [TV.put_same]
      intro _ _
      rw [hfe, hown2]
      exact ⟨rfl, (if_pos rfl).symm⟩
    · rw [TV.put_other T L eb]
      intro h1 h2
      obtain ⟨h3, h4⟩ := h.hold b h1 h2
      have hne : (T.l b).fence ≠ e := fun h5 => by
        have h6 := (hC _ (h.fence b) h5).1
        rw [← h5, h3] at h6
        exact eb h6
      rw [hown3 _ (h.fence b)]
      exact ⟨h3, h4.trans (if_neg hne).symm⟩
  · have hy2 : y.epoch ≤ T.epoch → y.site = sI (own y.epoch) → y.site = sI (own' y.epoch) ∧ y.epoch ≤ E := fun h1 h2 => ⟨by rw [hown3 _ h1]; exact h2, Int.le_trans h1 hE⟩
    have hy : y ∈ (if x = e then L.ops else C x) := hy
    split at hy
    · rw [ho] at hy
      rcases List.mem_append.1 hy with hy | hy
      · exact hy2 (h.le (h.fit s) hy) (h.site _ y ((h.fit s).mem hy)).1
      · rw [List.mem_singleton] at hy
        rw [hy, hoe, hown2, hos]
        exact ⟨rfl, heE⟩
    · obtain ⟨h1, h2⟩ := h.site x y hy
      exact hy2 h2 h1
  · show (if x = e then L.ops else C x) = []
    have hx' : E < x := hx
    rw [if_neg (by omega)]
    exact h.none x (by omega)
  · show ((T.put s L).l b).fence ≤ E
    by_cases eb : b = s
    · subst eb; rw [TV.put_same, hfe]; exact heE
    · rw [TV.put_other T L eb]; exact Int.le_trans (h.fence b) hE
  · show rowGo 0 0 (-1) ((T.put s L).l b).ops = true
    by_cases eb : b = s
    · subst eb; rw [TV.put_same]; exact hr
    · rw [TV.put_other T L eb]; exact h.row b
theorem reign (h : TInv T C own) (s : Bool) (hr : rowGo 0 0 (-1) (applyL (reignC (T.epoch + 1) s) (T.l s)).2.ops = true) : ∃ C' own', TInv { T.put s (applyL (reignC (T.epoch + 1) s) (T.l s)).2 with epoch := T.epoch + 1 } C' own' := by
  have same : TInv { T.put s (T.l s) with epoch := T.epoch + 1 } C own := by
    have h' := h.put_self s
    exact ⟨h'.fit, fun p hp => ⟨(h'.sent p hp).row, (h'.sent p hp).own, (h'.sent p hp).ne, Int.le_trans (h'.sent p hp).le (by show T.epoch ≤ T.epoch + 1; omega)⟩, h'.hold, fun e o ho => ⟨(h'.site e o ho).1, Int.le_trans (h'.site e o ho).2 (by show T.epoch ≤ T.epoch + 1; omega)⟩, fun e he => h'.none e (by have : T.epoch + 1 < e := he; show T.epoch < e; omega), fun b => Int.le_trans (h'.fence b) (by show T.epoch ≤ T.epoch + 1; omega), h'.row⟩
  have hk : applyL (reignC (T.epoch + 1) s) (T.l s) = (failD 3, T.l s) ∨ applyL (reignC (T.epoch + 1) s) (T.l s) = reignL (reignC (T.epoch + 1) s) (T.l s) := by
    unfold applyL
    split
    · exact .inr rfl
    · exact .inl rfl
  rcases hk with hk | hk
  · rw [hk]; exact ⟨C, own, same⟩
  · rw [hk] at hr ⊢
    unfold reignL at hr ⊢
    split
    · exact ⟨C, own, same⟩
    · rename_i h1
      rw [if_neg h1] at hr
      split
      · exact ⟨C, own, same⟩
      · rename_i h2
        rw [if_neg h2] at hr
        exact ⟨_, _, h.putOp s (T.epoch + 1) (fun x => if x = T.epoch + 1 then s else own x) (T.epoch + 1) _ _ rfl rfl rfl rfl hr (by omega) (Int.le_refl _) (fun x hx => if_neg hx) (if_pos rfl) (fun x hx he => by omega)⟩
theorem doNew_cases (c : CmdL) (L : LV) : (doNew c L).2 = L ∨ (doNew c L).2 = (putL c.op c.epoch c.site L).2 := by
  unfold doNew
  split
  · exact .inl rfl
  · split
    · exact .inl rfl
    · split
      · exact .inl rfl
      · split
        · exact .inl rfl
        · exact .inr rfl
theorem do_cases (c : CmdL) (L : LV) : (doL c L).2 = L ∨ (holdsL c.epoch c.site L ∧ (doL c L).2 = (putL c.op c.epoch c.site L).2) := by
  unfold doL
  split
  · rename_i hh
    split
    · split
      · exact .inl rfl
      · exact (doNew_cases c L).imp id (fun h => ⟨hh, h⟩)
    · exact (doNew_cases c L).imp id (fun h => ⟨hh, h⟩)
  · exact .inl rfl
theorem do_ (h : TInv T C own) (s : Bool) (o : OpL) (hr : rowGo 0 0 (-1) (applyL (doC (T.l s).fence s o) (T.l s)).2.ops = true) : ∃ C' own', TInv (T.put s (applyL (doC (T.l s).fence s o) (T.l s)).2) C' own' := by
  have hk : (applyL (doC (T.l s).fence s o) (T.l s)).2 = T.l s ∨ (holdsL (T.l s).fence (sI s) (T.l s) ∧ (applyL (doC (T.l s).fence s o) (T.l s)).2 = (putL o (T.l s).fence (sI s) (T.l s)).2) := by
    unfold applyL
    split
    · rw [if_pos (show (doC (T.l s).fence s o).kind = 1 from rfl)]
      exact do_cases (doC (T.l s).fence s o) (T.l s)
    · exact .inl rfl
  rcases hk with hk | ⟨⟨_, h2, h3⟩, hk⟩
  · rw [hk]; exact ⟨C, own, h.put_self s⟩
  · rw [hk] at hr ⊢
    obtain ⟨h4, h5⟩ := h.hold s h2 h3
    exact ⟨_, _, h.putOp s (T.l s).fence own T.epoch _ _ rfl rfl rfl rfl hr (Int.le_refl _) (h.fence s) (fun _ _ => rfl) h4 (fun x _ he => ⟨h4, h5.symm⟩)⟩
/-- a letter is sent -/
theorem sends (h : TInv T C own) (s : Bool) (a k : Nat) (ha : a ≤ (T.l s).ops.length) (hne : (T.l s).fold.hE ≠ 0) (hs : (T.l s).fold.hS = sI s) (hf : (T.l s).fold.hE = (T.l s).fence) : TInv { T with sent := T.sent ++ [(shipC (T.l s) s a k, !s)] } C own := by
  refine ⟨h.fit, fun p hp => ?_, h.hold, h.site, h.none, h.fence, h.row⟩
  rcases List.mem_append.1 hp with hp | hp
  · exact h.sent p hp
  · rw [List.mem_singleton] at hp
    subst hp
    obtain ⟨h1, _⟩ := h.hold s hf hs
    refine ⟨⟨(T.l s).ops.take (a + k), a, rfl, by rw [List.length_take]; omega, ?_, ?_, (h.fit s).take _, rowGo_take (h.row s) _⟩, ?_, hne, ?_⟩
    · show sinceAt _ a = sinceAt _ a
      unfold sinceAt
      by_cases h0 : a = 0
      · rw [if_pos h0, if_pos h0]
      · rw [if_neg h0, if_neg h0, List.getElem?_take, if_pos (by omega)]
    · show ((T.l s).ops.drop a).take k = _
      rw [List.drop_take, Nat.add_sub_cancel_left]
    · show own (T.l s).fold.hE = !!s
      rw [hf, h1, Bool.not_not]
    · show (T.l s).fold.hE ≤ T.epoch
      rw [hf]; exact h.fence s
theorem comes (h : TInv T C own) {p : CmdL × Bool} (hp : p ∈ T.sent) (hk : p.1.kind = 3) : TInv (T.put p.2 (applyL p.1 (T.l p.2)).2) C own := by
  have hk2 : (applyL p.1 (T.l p.2)).2 = T.l p.2 ∨ (applyL p.1 (T.l p.2)).2 = (shipL p.1 (T.l p.2)).2 := by
    unfold applyL
    split
    · rw [if_neg (show ¬ p.1.kind = 1 by omega)]; exact .inr rfl
    · exact .inl rfl
  rcases hk2 with hk2 | hk2
  · rw [hk2]; exact h.put_self _
  · rw [hk2]; exact h.come (h.sent p hp)
theorem match_ (h : TInv T C own) {i : Nat} {x y : OpL} (hx : (T.l false).ops[i]? = some x) (hy : (T.l true).ops[i]? = some y) (he : x.epoch = y.epoch) : (T.l false).ops.take (i + 1) = (T.l true).ops.take (i + 1) := (h.fit false).match_ (h.fit true) hx hy he
theorem begins (q r : Int) : TInv ⟨fun _ => newL q r, 0, []⟩ (fun _ => []) (fun _ => false) := by
  refine ⟨fun b i o hi => absurd hi (by simp [newL]), fun p hp => absurd hp List.not_mem_nil, fun b _ h => ⟨?_, rfl⟩, fun e o ho => absurd ho List.not_mem_nil, fun _ _ => rfl, fun _ => Int.le_refl _, fun _ => rfl⟩
  have h' : (0 : Int) = sI b := h
  cases b
  · rfl
  · cases h'
end TInv
end Go.Proofs.Ytbncblnchcmgbaa
