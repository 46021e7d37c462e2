/-
  Put together: LedN, TreeL, LawM, TurnM, MatchA, Two, ShtG, FModelLedger, ModelLedger.
-/
import Derived.Test.YtbncblnchcmgbaaLedP
import Derived.Test.YtbncblnchcmgbaaLedM
import Derived.Test.YtbncblnchcmgbaaMX1
import Derived.Test.YtbncblnchcmgbaaMX2
import Derived.Test.YtbncblnchcmgbaaTownL
import Derived.Test.YtbncblnchcmgbaaTownA
import Derived.Test.YtbncblnchcmgbaaLedQ
import Derived.Test.YtbncblnchcmgbaaShipT
import Derived.Test.YtbncblnchcmgbaaGrt12
import Derived.Test.YtbncblnchcmgbaaSml
import Derived.Test.YtbncblnchcmgbaaTurn
import Derived.BigQuiet
import Derived.Test.YtbncblnchcmgbaaLast
import Derived.Test.YtbncblnchcmgbaaSame
namespace Go.Proofs.Ytbncblnchcmgbaa
section
open Go.RowKit Go.ChangeShapes Go.WideShapes Go.ChangeAt

/-- what is live, rising -/
def namesL (L : LV) : List ByteArray := sortedN (L.fold.live.map (·.1))
/-- names that may be -/
theorem live_take : ∀ (l : List OpL) (f : FV), (∀ p ∈ f.live, p.1.size ≤ 16) → (∀ o ∈ l, okP o) → ∀ p ∈ (f.take l).live, p.1.size ≤ 16
  | [], f, h, _ => h
  | o :: l, f, h, ho => by
    refine live_take l (f.take1 o) ?_ (fun x hx => ho x (List.mem_cons_of_mem _ hx))
    intro p hp
    have h1 := ho o List.mem_cons_self
    unfold FV.take1 at hp
    split at hp
    · exact h p hp
    · simp only at hp
      split at hp
      · rename_i hk
        rcases mem_mput _ _ _ _ hp with hp | hp
        · rw [hp]
          rcases h1.2 with ⟨_, h2, _⟩ | ⟨h2, _⟩ | ⟨h2, _⟩
          · exact h2.2.2.2.2.2
          · omega
          · omega
        · exact h p (mem_mdel _ _ _ hp)
      · exact h p (mem_mdel _ _ _ hp)
theorem OkL.names {B : Nat} {L : LV} (h : OkL B L) : (∀ p ∈ L.fold.live, p.1.size ≤ 16) ∧ L.fold.live.length ≤ 80 :=
  ⟨live_take L.ops FV.fresh (fun p hp => by cases hp) (fun _ ho => h.okOf ho), Nat.le_trans h.foldOk.len h.len⟩
theorem c_keys_Sheet (m : Nat) (w : World) : Calls Try.prog 67 #[.map (some m)] w fun e w' => e = .returned (.func (.func 86) #[] #[.pointer (some ⟨w.heap.size, 0, none⟩)]) ∧ w' = w.alloc (.cells #[.map (some m)] 100) :=
  callsIn_wide.1 (sh_keys_Sheet (some m) w)
theorem c_sorted_Sheet (m : Nat) (l : List (ByteArray × Value)) (w : World) (hM : MapOf w m Value.string l) (hs : ∀ p ∈ l, p.1.size ≤ maxLen) (hn : l.length ≤ 1000000) :
    Calls Try.prog 60 #[.func (.func 86) #[] #[.pointer (some ⟨w.heap.size, 0, none⟩)]] (w.alloc (.cells #[.map (some m)] 100)) fun e w' =>
      ∃ A c, e = .returned (.slice A (sortedN (l.map (·.1))).length c) ∧ Own Rp.str w' No (w.heap.size + 1) 9 (.slice A (sortedN (l.map (·.1))).length c) (sortedN (l.map (·.1))) ∧ Kp No w w' := by
  obtain ⟨D0, h1, h2, h3⟩ := hM.owns (P := Try.prog) 9 Try.underlying9 hs (by unfold maxLen; omega)
  refine (callsIn_wide.1 (sh_sorted_Sheet m l.length D0 _ w h1 (by rw [h3]; unfold maxLen; omega) (by rw [h3]; omega))).mono ?_
  rintro e w' ⟨v, ss, rfl, hp, hrow, _, hb⟩
  have hown := own_of_sorted (l := l.map (·.1)) hrow (by rw [List.map_map]; exact hp.trans h2) (fun s hs' => by obtain ⟨p, hp, rfl⟩ := List.mem_map.1 hs'; exact hs p hp)
  have e1 : (w.alloc (.cells #[.map (some m)] 100)).heap.size = w.heap.size + 1 := by simp
  rw [e1] at hown
  obtain ⟨A, c, rfl⟩ := hown.shape
  exact ⟨A, c, rfl, hown, ((Kp.refl No w).alloc _).transNo (Kp.ofBelow hb (Nat.le_refl _))⟩
set_option maxRecDepth 100000 in
theorem a_names (B l : Nat) (L : LV) (F : Nat → Prop) (w : World) (h : LAt w l L F) (hok : OkL B L) :
    Calls Try.prog 37 #[.pointer (some ⟨l, 0, none⟩)] w fun e w' => ∃ A c, e = .returned (.slice A (namesL L).length c) ∧ Own Rp.str w' No w.heap.size 9 (.slice A (namesL L).length c) (namesL L) ∧ Kp No w w' := by
  obtain ⟨hn1, hn2⟩ := hok.names
  obtain ⟨b1, b2, ov, lv, S, hin, _⟩ := h
  obtain ⟨lm, hm, hkey, _⟩ := hin.fat.live
  have k := Blk.cell hin.fat.blk (i := 0) rfl
  have hlen : lm.length = L.fold.live.length := by have := congrArg List.length hkey; simpa using this
  have hks := c_keys_Sheet b1 w
  have hso := c_sorted_Sheet b1 lm w hm (fun p hp => by
    have h1 : p.1 ∈ L.fold.live.map (·.1) := by rw [← hkey]; exact List.mem_map.2 ⟨p, hp, rfl⟩
    obtain ⟨q, hq, he⟩ := List.mem_map.1 h1
    rw [← he]
    have := hn1 q hq
    unfold maxLen; omega) (by omega)
  rw [hkey] at hso
  unfold namesL
  obtain ⟨N, hN⟩ : ∃ N, sortedN (L.fold.live.map (·.1)) = N := ⟨_, rfl⟩
  rw [hN] at hso ⊢
  have k' : w.cell? ⟨l, 0, none⟩ = some (.map (some b1)) := k
  clear hin hm hkey hn1 hn2 hok hlen hN k
  go_enter Try.func37, Try.ntmps37
  go_wp2_with fail
  refine hks.mono ?_
  rintro e w1 ⟨rfl, rfl⟩
  clear hks
  go_wp2_with fail
  refine hso.mono ?_
  rintro e w2 ⟨An, cn, rfl, hown, hk2⟩
  have HN := Lib.hid hown
  have HK2 := Lib.hid hk2
  clear hso hown hk2
  go_wp2_with fail
  go_ret
  exact ⟨An, cn, rfl, HN.out.mono (Nat.le_succ _) (fun _ x => x), HK2.out⟩
end

section
open Go.RowKit Go.ChangeShapes Go.WideShapes Go.ChangeAt

/-- what was seen so far -/
structure SeenT (rows : List (List OpL)) (M : MV) : Prop where
  frm : FromM M rows
  row : ∀ l ∈ rows, rowB 0 0 l = true
  has : ∀ l ∈ rows, HasM M l
theorem SeenT.nil : SeenT [] ⟨[], []⟩ := ⟨FromM.nil, fun l h => by simp at h, fun l h => by simp at h⟩
theorem SeenT.see {rows : List (List OpL)} {M : MV} {l : List OpL} (h : SeenT rows M) (hok : OkM M) (hs : (seeL l M).1 = 0) : SeenT (rows ++ [l]) (seeL l M).2 := by
  obtain ⟨h1, h2, h3, _⟩ := see_ok hok hs
  refine ⟨h.frm.see hok hs, fun k hk => ?_, fun k hk => ?_⟩
  · rcases List.mem_append.1 hk with hk | hk
    · exact h.row k hk
    · rw [List.mem_singleton.1 hk]; exact h1
  · rcases List.mem_append.1 hk with hk | hk
    · exact (h.has k hk).sub h2
    · rw [List.mem_singleton.1 hk]; exact h3
namespace TInv
variable {T : TV} {C : Int → List OpL} {own : Int → Bool}
theorem mono_op (h : TInv T C own) {s : Bool} {e : Int} {o : OpL} {L : LV} (ho : L.ops = (T.l s).ops ++ [o]) (hC : ∀ x, x ≤ T.epoch → x = e → C e = (T.l s).ops) : ∀ l, Fits C l → Fits (fun x => if x = e then L.ops else C x) l := fun l hl => hl.mono (fun p hp => by
  have hle := h.le hl hp
  show C p.epoch <+: (if p.epoch = e then L.ops else C p.epoch)
  split
  · rename_i h1
    rw [h1, hC _ hle h1, ho]
    exact List.prefix_append _ _
  · exact List.prefix_refl _)
theorem reign2 (h : TInv T C own) (s : Bool) (hr : rowGo 0 0 (-1) (applyL (reignC (T.epoch + 1) s) (T.l s)).2.ops = true) : ∃ C' own', TInv { T.put s (applyL (reignC (T.epoch + 1) s) (T.l s)).2 with epoch := T.epoch + 1 } C' own' ∧ ∀ l, Fits C l → Fits C' l := by
  have same : TInv { T.put s (T.l s) with epoch := T.epoch + 1 } C own := by
    have h' := h.put_self s
    exact ⟨h'.fit, fun p hp => ⟨(h'.sent p hp).row, (h'.sent p hp).own, (h'.sent p hp).ne, Int.le_trans (h'.sent p hp).le (by show T.epoch ≤ T.epoch + 1; omega)⟩, h'.hold, fun e o ho => ⟨(h'.site e o ho).1, Int.le_trans (h'.site e o ho).2 (by show T.epoch ≤ T.epoch + 1; omega)⟩, fun e he => h'.none e (by have : T.epoch + 1 < e := he; show T.epoch < e; omega), fun b => Int.le_trans (h'.fence b) (by show T.epoch ≤ T.epoch + 1; omega), h'.row⟩
  have hk : applyL (reignC (T.epoch + 1) s) (T.l s) = (failD 3, T.l s) ∨ applyL (reignC (T.epoch + 1) s) (T.l s) = reignL (reignC (T.epoch + 1) s) (T.l s) := by
    unfold applyL
    split
    · exact .inr rfl
    · exact .inl rfl
  rcases hk with hk | hk
  · rw [hk]; exact ⟨C, own, same, fun _ h => h⟩
  · rw [hk] at hr ⊢
    unfold reignL at hr ⊢
    split
    · exact ⟨C, own, same, fun _ h => h⟩
    · rename_i h1
      rw [if_neg h1] at hr
      split
      · exact ⟨C, own, same, fun _ h => h⟩
      · rename_i h2
        rw [if_neg h2] at hr
        exact ⟨_, _, h.putOp s (T.epoch + 1) (fun x => if x = T.epoch + 1 then s else own x) (T.epoch + 1) _ _ rfl rfl rfl rfl hr (by omega) (Int.le_refl _) (fun x hx => if_neg hx) (if_pos rfl) (fun x hx he => by omega), h.mono_op (L := (putL reignOp (reignC (T.epoch + 1) s).epoch (reignC (T.epoch + 1) s).site { T.l s with fence := (reignC (T.epoch + 1) s).epoch }).2) rfl (fun x hx he => by omega)⟩
theorem do2 (h : TInv T C own) (s : Bool) (o : OpL) (hr : rowGo 0 0 (-1) (applyL (doC (T.l s).fence s o) (T.l s)).2.ops = true) : ∃ C' own', TInv (T.put s (applyL (doC (T.l s).fence s o) (T.l s)).2) C' own' ∧ ∀ l, Fits C l → Fits C' l := by
  have hk : (applyL (doC (T.l s).fence s o) (T.l s)).2 = T.l s ∨ (holdsL (T.l s).fence (sI s) (T.l s) ∧ (applyL (doC (T.l s).fence s o) (T.l s)).2 = (putL o (T.l s).fence (sI s) (T.l s)).2) := by
    unfold applyL
    split
    · rw [if_pos (show (doC (T.l s).fence s o).kind = 1 from rfl)]
      exact do_cases (doC (T.l s).fence s o) (T.l s)
    · exact .inl rfl
  rcases hk with hk | ⟨⟨_, h2, h3⟩, hk⟩
  · rw [hk]; exact ⟨C, own, h.put_self s, fun _ h => h⟩
  · rw [hk] at hr ⊢
    obtain ⟨h4, h5⟩ := h.hold s h2 h3
    exact ⟨_, _, h.putOp s (T.l s).fence own T.epoch _ _ rfl rfl rfl rfl hr (Int.le_refl _) (h.fence s) (fun _ _ => rfl) h4 (fun x _ he => ⟨h4, h5.symm⟩), h.mono_op (L := (putL o (T.l s).fence (sI s) (T.l s)).2) rfl (fun x _ he => h5.symm)⟩
end TInv
theorem turn_inv2 {i : Nat} {T : TV} (h : TOk i T) {C : Int → List OpL} {own : Int → Bool} (hi : TInv T C own) (x : TurnL) : ∃ C' own', TInv (turnT x T) C' own' ∧ ∀ l, Fits C l → Fits C' l := by
  unfold turnT
  split
  · unfold reignT
    split
    · exact hi.reign2 _ (apply_ok (h.led _) _).row
    · exact ⟨C, own, hi, fun _ h => h⟩
  · split
    · exact hi.do2 _ _ (apply_ok (h.led _) _).row
    · split
      · unfold sendT
        split
        · rename_i hs
          obtain ⟨h1, h2, h3⟩ := hs
          have hlt := modN_lt x.at_ (show 0 < (T.l (sOf x.site)).ops.length + 1 by omega)
          have hq := hi.sends (sOf x.site) (modN x.at_ ((T.l (sOf x.site)).ops.length + 1)) (modN x.some_ 9) (by omega) h1 h2 h3
          unfold shipT
          rw [if_pos ⟨h1, h2, h3⟩]
          exact ⟨C, own, hq.comes (p := (sentC (T.l (sOf x.site)) (sOf x.site) x.at_ x.some_, !sOf x.site)) (List.mem_append.2 (.inr (List.mem_singleton.2 rfl))) rfl, fun _ h => h⟩
        · exact ⟨C, own, hi, fun _ h => h⟩
      · unfold againT
        split
        · rename_i p hp
          have hm := List.mem_of_getElem? hp
          exact ⟨C, own, hi.comes hm (h.sent p hm).1, fun _ h => h⟩
        · exact ⟨C, own, hi, fun _ h => h⟩
/-- turns, one behind the other -/
def runT (l : List TurnL) : TV := l.foldl (fun T x => turnT x T) ⟨fun _ => newL 65536 64, 0, []⟩
theorem runT_snoc (l : List TurnL) (x : TurnL) : runT (l ++ [x]) = turnT x (runT l) := by simp [runT, List.foldl_append]
theorem run_take {l : List TurnL} {i : Nat} {x : TurnL} (h : l[i]? = some x) : runT (l.take (i + 1)) = turnT x (runT (l.take i)) := by
  rw [List.take_add_one, h]
  exact runT_snoc _ _
theorem run_ok (l : List TurnL) : ∀ n, n ≤ l.length → TOk n (runT (l.take n))
  | 0, _ => TOk.begins 65536 64 (by decide)
  | n + 1, h => by
    rw [run_take (List.getElem?_eq_getElem (show n < l.length by omega))]
    exact turn_ok (run_ok l n (by omega)) _
theorem run_inv (l : List TurnL) {n : Nat} {C : Int → List OpL} {own : Int → Bool} (h : TInv (runT (l.take n)) C own) : ∀ k, n + k ≤ l.length → ∃ C' own', TInv (runT (l.take (n + k))) C' own' ∧ ∀ r, Fits C r → Fits C' r
  | 0, _ => ⟨C, own, h, fun _ h => h⟩
  | k + 1, hk => by
    obtain ⟨C1, own1, h1, h2⟩ := run_inv l h k (by omega)
    rw [← Nat.add_assoc, run_take (List.getElem?_eq_getElem (show n + k < l.length by omega))]
    obtain ⟨C2, own2, h3, h4⟩ := turn_inv2 (run_ok l (n + k) (by omega)) h1 l[n + k]
    exact ⟨C2, own2, h3, fun r hr => h4 r (h2 r hr)⟩
/-- a tree in which all rows lie that were seen; they fit to what the two have -/
structure TreeI (T : TV) (rows : List (List OpL)) (M : MV) : Prop where
  ex : ∃ C own, TInv T C own ∧ ∀ l ∈ rows, Fits C l
  seen : SeenT rows M
theorem TreeI.begins : TreeI (runT []) [] ⟨[], []⟩ := ⟨⟨_, _, TInv.begins 65536 64, fun l h => by simp at h⟩, SeenT.nil⟩
theorem TreeI.later {l : List TurnL} {n : Nat} {rows : List (List OpL)} {M : MV} (h : TreeI (runT (l.take n)) rows M) {m : Nat} (hm : n ≤ m) (hl : m ≤ l.length) : TreeI (runT (l.take m)) rows M := by
  obtain ⟨C, own, hi, hf⟩ := h.ex
  obtain ⟨C2, own2, h1, h2⟩ := run_inv l hi (m - n) (by omega)
  rw [show n + (m - n) = m by omega] at h1
  exact ⟨⟨C2, own2, h1, fun r hr => h2 r (hf r hr)⟩, h.seen⟩
theorem see_fits2 {M : MV} {l : List OpL} (hr : rowB 0 0 l = true) (h : ∀ a ∈ linedL (0, 0) l, ∀ x, mget a.place M.lines = some x → x = a) : (seeL l M).1 = 0 := by
  unfold seeL
  rw [if_neg (by rw [hr]; simp)]
  have hc : ¬ (linedL (0, 0) l).any (clash M.lines) = true := fun hq => by
    obtain ⟨a, ha, h1⟩ := List.any_eq_true.1 hq
    unfold clash at h1
    cases hx : mget a.place M.lines with
    | none => rw [hx] at h1; cases h1
    | some x =>
      rw [hx] at h1
      have h2 := h a ha x hx
      subst h2
      have h3 : decide (EqP x.op x.op) = true := decide_eq_true ⟨rfl, rfl, rfl, rfl, rfl, rfl, rfl⟩
      simp [h3] at h1
  rw [if_neg hc]
theorem lined_same {C : Int → List OpL} {l r : List OpL} (hl : Fits C l) (hr : Fits C r) (bl : rowB 0 0 l = true) (br : rowB 0 0 r = true) {a x : LineL} (ha : a ∈ linedL (0, 0) l) (hx : x ∈ linedL (0, 0) r) (hp : a.place = x.place) : x = a := by
  obtain ⟨i, hi⟩ := List.getElem?_of_mem ha
  obtain ⟨j, hj⟩ := List.getElem?_of_mem hx
  have hil : i < l.length := by have := (List.getElem?_eq_some_iff.1 hi).1; rw [linedL_length] at this; exact this
  have hjl : j < r.length := by have := (List.getElem?_eq_some_iff.1 hj).1; rw [linedL_length] at this; exact this
  obtain ⟨o, ho⟩ : ∃ o, l[i]? = some o := ⟨_, List.getElem?_eq_getElem hil⟩
  obtain ⟨q, hq⟩ : ∃ o, r[j]? = some o := ⟨_, List.getElem?_eq_getElem hjl⟩
  rw [linedL_get ho] at hi
  rw [linedL_get hq] at hj
  injection hi with hi
  injection hj with hj
  have e1 : o.n = q.n := by have := congrArg Prod.fst hp; rw [← hi, ← hj] at this; exact this
  have e2 : o.epoch = q.epoch := by have := congrArg Prod.snd hp; rw [← hi, ← hj] at this; exact this
  have n1 := row_low bl ho
  have n2 := row_low br hq
  obtain rfl : i = j := by omega
  have hm := hl.match_ hr ho hq e2
  have ht : l.take i = r.take i := by
    have := congrArg (List.take i) hm
    rwa [List.take_take, List.take_take, Nat.min_eq_left (by omega)] at this
  have hoq : o = q := by
    have := congrArg (fun z : List OpL => z[i]?) hm
    simp only [List.getElem?_take, Nat.lt_succ_self, if_true, ho, hq] at this
    injection this
  rw [← hi, ← hj, hoq, ht]
theorem TreeI.see {T : TV} {rows : List (List OpL)} {M : MV} (h : TreeI T rows M) (hok : OkM M) (b : Bool) : (seeL (T.l b).ops M).1 = 0 ∧ TreeI T (rows ++ [(T.l b).ops]) (seeL (T.l b).ops M).2 := by
  obtain ⟨C, own, hi, hf⟩ := h.ex
  have hr : rowB 0 0 (T.l b).ops = true := by
    unfold rowB
    rw [hi.row b]
    rfl
  have hs : (seeL (T.l b).ops M).1 = 0 := see_fits2 hr (fun a ha x hx => by
    obtain ⟨R, hR, bR, _, hp, hm⟩ := h.seen.frm _ _ hx
    exact lined_same (hi.fit b) (hf R hR) hr bR ha hm hp)
  refine ⟨hs, ⟨C, own, hi, fun l hl => ?_⟩, h.seen.see hok hs⟩
  rcases List.mem_append.1 hl with hl | hl
  · exact hf l hl
  · rw [List.mem_singleton.1 hl]; exact hi.fit b
theorem lastP_eq (L : LV) : lastP (0, 0) L.ops = lastL L := by
  unfold lastP lastL
  cases L.ops.getLast? <;> rfl
/-- the path to a ledger's last place is the ledger's row -/
theorem TreeI.path {T : TV} {rows : List (List OpL)} {M : MV} {b : Bool} (h : TreeI T (rows ++ [(T.l b).ops]) M) (hok : OkM M) : pathM M (lastL (T.l b)) = some (T.l b).ops := by
  have h1 := path_has hok (h.seen.row _ (List.mem_append_right _ List.mem_cons_self)) (h.seen.has _ (List.mem_append_right _ List.mem_cons_self)) (T.l b).ops.length (Nat.le_refl _)
  rw [List.take_length] at h1
  rw [← lastP_eq]
  exact h1
/-- what is live, by both -/
theorem live_both : ∀ (l : List OpL) (f : FV) (m : List (ByteArray × OpL)), (∀ o ∈ l, okP o) → (f.live.map (·.1)).Nodup → (m.map (·.1)).Nodup → (∀ k, mget k f.live = (mget k m).map (fun o => (o.size, o.hashes))) →
    (((f.take l).live.map (·.1)).Nodup ∧ ((l.foldl liveG m).map (·.1)).Nodup ∧ ∀ k, mget k (f.take l).live = (mget k (l.foldl liveG m)).map (fun o => (o.size, o.hashes)))
  | [], f, m, _, h1, h2, h3 => ⟨h1, h2, h3⟩
  | o :: l, f, m, ho, h1, h2, h3 => by
    have hk := (ho o List.mem_cons_self).2
    have hstep : ((f.take1 o).live.map (·.1)).Nodup ∧ ((liveG m o).map (·.1)).Nodup ∧ ∀ k, mget k (f.take1 o).live = (mget k (liveG m o)).map (fun o => (o.size, o.hashes)) := by
      unfold FV.take1 liveG
      rcases hk with ⟨k1, _⟩ | ⟨k2, _⟩ | ⟨k3, _⟩
      · rw [if_neg (by omega), if_pos k1]
        simp only
        rw [if_pos k1]
        refine ⟨nodup_mput _ _ _ (nodup_mdel _ _ h1), nodup_mput _ _ _ h2, fun k => ?_⟩
        rw [mget_put, mget_put, mget_del _ _ _ h1]
        split
        · rfl
        · exact h3 k
      · rw [if_neg (by omega), if_neg (by omega), if_pos k2]
        simp only
        rw [if_neg (by omega)]
        refine ⟨nodup_mdel _ _ h1, nodup_mdel _ _ h2, fun k => ?_⟩
        rw [mget_del _ _ _ h1, mget_del _ _ _ h2]
        split
        · rfl
        · exact h3 k
      · rw [if_pos k3, if_neg (by omega), if_neg (by omega)]
        exact ⟨h1, h2, h3⟩
    exact live_both l (f.take1 o) (liveG m o) (fun x hx => ho x (List.mem_cons_of_mem _ hx)) hstep.1 hstep.2.1 hstep.2.2
theorem sortedN_perm {l m : List ByteArray} (h : l.Perm m) : sortedN l = sortedN m := by
  unfold sortedN
  rw [mergeSort_of_perm (h.map _)]
theorem live_ledger {B : Nat} {L : LV} (h : OkL B L) : (∀ k, mget k L.fold.live = (mget k (liveL1 L.ops)).map (fun o => (o.size, o.hashes))) ∧ namesL L = sortedN ((liveL1 L.ops).map (·.1)) := by
  obtain ⟨h1, h2, h3⟩ := live_both L.ops FV.fresh [] (fun o ho => h.okOf ho) List.nodup_nil List.nodup_nil (fun _ => rfl)
  refine ⟨h3, sortedN_perm (perm_names h1 h2 (fun k => ?_))⟩
  show mget k (FV.fresh.take L.ops).live = none ↔ mget k (L.ops.foldl liveG []) = none
  rw [h3 k]
  simp
theorem liveG_nodup {m : List (ByteArray × OpL)} (h : (m.map (·.1)).Nodup) (o : OpL) : ((liveG m o).map (·.1)).Nodup := by
  unfold liveG
  split
  · exact nodup_mput _ _ _ h
  · split
    · exact nodup_mdel _ _ h
    · exact h
theorem live_mem : ∀ (l : List OpL) (m : List (ByteArray × OpL)), (m.map (·.1)).Nodup → ∀ (k : ByteArray) (o : OpL), mget k (l.foldl liveG m) = some o → mget k m = some o ∨ o ∈ l
  | [], m, _, k, o, h => .inl h
  | p :: l, m, hn, k, o, h => by
    rcases live_mem l (liveG m p) (liveG_nodup hn p) k o h with h1 | h1
    · unfold liveG at h1
      split at h1
      · rw [mget_put] at h1
        split at h1
        · injection h1 with h1
          exact .inr (h1 ▸ List.mem_cons_self)
        · exact .inl h1
      · split at h1
        · rw [mget_del _ _ _ hn] at h1
          split at h1
          · cases h1
          · exact .inl h1
        · exact .inl h1
    · exact .inr (List.mem_cons_of_mem _ h1)
end

section
open Go.RowKit Go.ChangeShapes Go.WideShapes Go.ChangeAt

structure OneM (W w : World) (m : Nat) (M : MV) (F : Nat → Prop) : Prop where
  mat : MAt w m M F
  new : ∀ k, F k → W.heap.size ≤ k
  ok : OkM M
  kp : Kp No W w
theorem OneM.keptNo {W w w' : World} {m : Nat} {M : MV} {F : Nat → Prop} (h : OneM W w m M F) (hk : Kp No w w') : OneM W w' m M F := ⟨h.mat.keptNo hk, h.new, h.ok, h.kp.trans' hk⟩
/-- a model, and two ledgers in a row of pointers -/
structure LawS (W w : World) (m : Nat) (M : MV) (F : Nat → Prop) (g : Nat) (x : Bool → Nat) (L : Bool → LV) (FL : Bool → Nat → Prop) : Prop where
  one : OneM W w m M F
  led : ∀ b, LAt w (x b) (L b) (FL b)
  dj : ∀ b k, FL b k → ¬ F k
  blk : Blk w g 25 [.pointer (some ⟨x false, 0, none⟩), .pointer (some ⟨x true, 0, none⟩)]
  ng : ¬ F g
namespace LAt
theorem lt_ {w : World} {l : Nat} {L : LV} {F : Nat → Prop} (h : LAt w l L F) {k : Nat} (hk : F k) : k < w.heap.size := h.lt k hk
end LAt
namespace LawS
variable {W w w' : World} {m g : Nat} {M M' : MV} {F F' : Nat → Prop} {x : Bool → Nat} {L : Bool → LV} {FL : Bool → Nat → Prop}
theorem keptNo (h : LawS W w m M F g x L FL) (hk : Kp No w w') : LawS W w' m M F g x L FL :=
  ⟨h.one.keptNo hk, fun b => (h.led b).keptNo hk, h.dj, h.blk.kept hk (fun z => z), h.ng⟩
theorem see (h : LawS W w m M F g x L FL) (hm : MAt w' m M' F') (hu : Upd F w w' F') (hok : OkM M') : LawS W w' m M' F' g x L FL :=
  ⟨⟨hm, fun k hk => (hu.foot k hk).elim (h.one.new k) (fun hle => Nat.le_trans h.one.kp.size hle), hok, h.one.kp.trans hu.kp (fun i hi hf => by have := h.one.new i hf; omega)⟩,
   fun b => (h.led b).kept hu.kp (fun k hk hf => h.dj b k hk hf), fun b k hk hf => (hu.foot k hf).elim (h.dj b k hk) (fun hle => by have := (h.led b).lt k hk; omega), h.blk.kept hu.kp h.ng, fun hf => (hu.foot g hf).elim h.ng (fun hle => by have := Blk.lt h.blk; omega)⟩
theorem cell (h : LawS W w m M F g x L FL) (b : Bool) : w.cell? ⟨g, (if b = true then 1 else 0), none⟩ = some (.pointer (some ⟨x b, 0, none⟩)) := by
  cases b
  · exact Blk.cell h.blk rfl
  · exact Blk.cell h.blk rfl
end LawS
end

section
section
open Go.RowKit Go.ChangeShapes Go.WideShapes Go.ChangeAt

def turnC (x : TurnL) (hv : Value) : List Value := [.int .i64 x.kind, .int .i64 x.site, .int .i64 x.at_, .int .i64 x.some_, .int .i64 x.op.n, .int .i64 x.op.epoch, .int .i64 x.op.kind, .int .i64 x.op.site, .int .i64 x.op.client, .int .i64 x.op.seq, .string x.op.name, .int .i64 x.op.size, hv]
def turnV (x : TurnL) (hv : Value) : Value := .agg (turnC x hv).toArray
theorem sOf_mod {site : Int} {b : Bool} (h : sOf site = b) : (IntKind.u64.wrap site).tmod 2 = sI b := by
  rw [← h, ← sOf_eq]
  exact modN_eq site (show 0 < 2 by omega)
theorem TNew.open_ {w0 w : World} {t : Nat} {T : TV} (h : TNew w0 w t T) : Kp No w0 w ∧ ∃ x F sv tv S, TIn w0.heap.size w t x F sv tv S T := h
set_option maxRecDepth 100000 in
set_option maxHeartbeats 8000000 in
theorem t_turn1 (w0 w : World) (t : Nat) (x : TurnL) (A : Option Addr) (c : Nat) (i : Nat) (T : TV) (h : TNew w0 w t T) (hok : TOk i T) (hi : i ≤ 1000) (hkd : x.kind = 1) :
    Calls Try.prog 11 #[.pointer (some ⟨t, 0, none⟩), turnV x (.slice A x.op.hashes.length c)] w fun e w' => e = .returned (.tuple #[]) ∧ TNew w0 w' t (reignT (sOf x.site) T) := by
  obtain ⟨hk0, xs, F, sv, tv, S, hin⟩ := h
  obtain ⟨b, hb⟩ : ∃ b, sOf x.site = b := ⟨_, rfl⟩
  have hmod := sOf_mod hb
  rw [hb]
  unfold turnV turnC
  obtain ⟨kd, st, at2, sm, ⟨on, oe, ok, os, oc, oq, onm, osz, ohs⟩⟩ := x
  simp only at *
  subst hkd
  obtain ⟨kd, hkd⟩ : ∃ k : Int, k = 1 := ⟨_, rfl⟩
  obtain ⟨hn, hhn⟩ : ∃ k, ohs.length = k := ⟨_, rfl⟩
  rw [hhn]
  clear hhn hb
  rw [← hkd]
  obtain ⟨wa, hwa⟩ : ∃ v, w.alloc (.cells #[.int .i64 kd, .int .i64 st, .int .i64 at2, .int .i64 sm, .int .i64 on, .int .i64 oe, .int .i64 ok, .int .i64 os, .int .i64 oc, .int .i64 oq, .string onm, .int .i64 osz, .slice A hn c] 40) = v := ⟨_, rfl⟩
  obtain ⟨y, hy⟩ : ∃ v, w.heap.size = v := ⟨_, rfl⟩
  have HINW := Lib.hid hin
  have HYW : Hid (y = w.heap.size) := Lib.hid hy.symm
  have HKA := Lib.hid (show Kp No w wa by rw [← hwa]; exact (Kp.refl _ _).alloc _)
  have hka : Kp No w wa := by rw [← hwa]; exact (Kp.refl _ _).alloc _
  have hba : Blk wa y 40 [.int .i64 kd, .int .i64 st, .int .i64 at2, .int .i64 sm, .int .i64 on, .int .i64 oe, .int .i64 ok, .int .i64 os, .int .i64 oc, .int .i64 oq, .string onm, .int .i64 osz, .slice A hn c] := by rw [← hwa, ← hy]; exact Blk.new w _ _
  have hyt : y ≠ t := fun e => by have := Blk.lt hin.blk; omega
  have HYT := Lib.hid hyt
  have HIN := Lib.hid (hin.keptNo hka)
  have HK0 := Lib.hid (hk0.trans' hka)
  have HBA := Lib.hid hba
  have HYG : Hid (w0.heap.size ≤ y) := Lib.hid (by rw [← hy]; exact hk0.size)
  have y0 : wa.cell? ⟨y, 0, none⟩ = some (.int .i64 kd) := Blk.cell hba rfl
  have y1 : wa.cell? ⟨y, 1, none⟩ = some (.int .i64 st) := Blk.cell hba rfl
  clear hin hka hba hk0 hyt
  subst hkd
  obtain ⟨ep, hep⟩ : ∃ e, T.epoch = e := ⟨_, rfl⟩
  have k2 : wa.cell? ⟨t, 2, none⟩ = some (.int .i64 ep) := by rw [← hep]; exact Blk.cell HIN.out.blk rfl
  have f2 := Blk.fr HIN.out.blk 2
  have hepb := hok.epoch
  rw [hep] at hepb
  have HEP := Lib.hid hep
  have HOK := Lib.hid hok
  clear hok hep
  cases b
  · skip
    unfold sI at hmod
    simp only [Bool.false_eq_true, if_false] at hmod
    by_cases he16 : ep < 16
    · have hT : reignT false T = { T.put false (applyL (reignC (ep + 1) false) (T.l false)).2 with epoch := ep + 1 } := by unfold reignT; rw [HEP.out, if_pos he16]
      have HT := Lib.hid hT
      clear hT
      have HIN2 : Hid (TIn w0.heap.size (wa.setCell ⟨t, 2, none⟩ (.int .i64 (ep + 1))) t xs F sv tv S { T with epoch := ep + 1 }) := Lib.hid (HIN.out.next (ep + 1))
      have HK2 : Hid (Kp No w0 (wa.setCell ⟨t, 2, none⟩ (.int .i64 (ep + 1)))) := Lib.hid (HK0.out.trans ((Kp.refl (· = t) wa).setCell (p := ⟨t, 2, none⟩) (fun _ => rfl) _) (fun k hk e => by have := HIN.out.tb; omega))
      obtain ⟨w2, hw2⟩ : ∃ v, wa.setCell ⟨t, 2, none⟩ (.int .i64 (ep + 1)) = v := ⟨_, rfl⟩
      rw [hw2] at HIN2 HK2
      have hwr : IntKind.i64.wrap (ep + 1) = ep + 1 := by rw [IntKind.wrap_i64]; omega
      go_enter Try.func11, Try.ntmps11
      go_wp2_with fail
      clear hwa hy hw2 k2 f2 y0 y1
      have k0 : w2.cell? ⟨t, 0, none⟩ = some _ := Blk.cell HIN2.out.blk rfl
      have k1 : w2.cell? ⟨t, 1, none⟩ = some _ := Blk.cell HIN2.out.blk rfl
      have k2 : w2.cell? ⟨t, 2, none⟩ = some (.int .i64 (ep + 1)) := Blk.cell HIN2.out.blk rfl
      have hbu : ∀ W, (Instr.build 44 #[(0, .int .i64 4), (1, .int .i64 (ep + 1)), (2, .int .i64 0)]).run Try.prog W = .ok (.agg #[.int .i64 4, .int .i64 (ep + 1), .int .i64 0, .int .i64 0, .int .i64 0, .int .i64 0, .int .i64 0, .int .i64 0, .int .i64 0, .string { data := #[] }, .int .i64 0, .slice none 0 0, .int .i64 0, .int .i64 0, .slice none 0 0, .int .i64 0]) W := fun W => by go_simp
      refine Reg.wp_region_plan [⟨0, false, []⟩, ⟨1, false, []⟩, ⟨2, false, []⟩, ⟨3, false, []⟩, ⟨4, false, []⟩, ⟨5, false, []⟩, ⟨6, false, []⟩, ⟨7, false, []⟩, ⟨8, false, []⟩, ⟨9, false, []⟩, ⟨10, false, []⟩, ⟨11, false, []⟩, ⟨12, true, []⟩] rfl (by kernel_rfl) ?_
      repeat (first | (refine Reg.look rfl rfl rfl (by go_simp; rfl) rfl ?_; go_simp) | (refine Reg.skip rfl rfl rfl ?_; go_simp))
      obtain ⟨wd, hwd⟩ : ∃ v, w2.drew = v := ⟨_, rfl⟩
      have hkd : Kp No w2 wd := by rw [← hwd]; exact (Kp.refl _ _).drew
      rw [hwd]
      have hok2 : TOk i { T with epoch := ep + 1 } := ⟨HOK.out.led, HOK.out.sent, HOK.out.many, by show 0 ≤ ep + 1 ∧ ep + 1 ≤ 16; omega⟩
      have hA := (HIN2.out.keptNo hkd).applyC (HK2.out.trans' hkd) hok2 hi false (reignC (ep + 1) false) none none 0 0 No (Rp.none_ _ _ _) (Rp.none_ _ _ _) (fun _ h => h.elim) (by show -9223372036854775808 ≤ (0 : Int) ∧ (0 : Int) < 9223372036854775808; omega) ⟨Nat.zero_le _, Nat.zero_le _, fun o ho => absurd ho List.not_mem_nil⟩
      unfold cmdV reignC opZ sI at hA
      simp only [Bool.false_eq_true, if_false, List.length_nil] at hA
      have HA := Lib.hid hA
      clear hA hwd hkd k0 k1 k2 hbu
      refine Reg.act rfl ?_
      go_wp2_with fail
      refine HA.out.mono ?_
      rintro e w3 ⟨rfl, F2, hin3, hk3⟩
      have HFIN : Hid (TNew w0 w3 t (reignT false T)) := Lib.hid (by rw [HT.out]; exact ⟨hk3, xs, F2, sv, tv, S, hin3⟩)
      clear hin3 hk3 HA
      go_wp2_with fail
      (refine ⟨?anew, ?_⟩; case anew => ((repeat (refine Reg.anew_cons rfl rfl (fun _ => by go_simp) ?_)); exact Reg.anew_nil))
      repeat (first | (refine Reg.look rfl rfl rfl (by go_simp; rfl) rfl ?_; go_simp) | (refine Reg.skip rfl rfl rfl ?_; go_simp))
      (refine Reg.done ?_; simp only [Exit.then])
      go_wp2_with fail
      go_end0
      exact ⟨rfl, HFIN.out⟩
    · have hT : reignT false T = T := by unfold reignT; rw [HEP.out, if_neg he16]
      have HT := Lib.hid hT
      clear hT
      go_enter Try.func11, Try.ntmps11
      go_wp2_with fail
      go_end0
      exact ⟨rfl, by rw [HT.out]; exact ⟨HK0.out, xs, F, sv, tv, S, HIN.out⟩⟩
  · skip
    unfold sI at hmod
    simp only [if_true] at hmod
    by_cases he16 : ep < 16
    · have hT : reignT true T = { T.put true (applyL (reignC (ep + 1) true) (T.l true)).2 with epoch := ep + 1 } := by unfold reignT; rw [HEP.out, if_pos he16]
      have HT := Lib.hid hT
      clear hT
      have HIN2 : Hid (TIn w0.heap.size (wa.setCell ⟨t, 2, none⟩ (.int .i64 (ep + 1))) t xs F sv tv S { T with epoch := ep + 1 }) := Lib.hid (HIN.out.next (ep + 1))
      have HK2 : Hid (Kp No w0 (wa.setCell ⟨t, 2, none⟩ (.int .i64 (ep + 1)))) := Lib.hid (HK0.out.trans ((Kp.refl (· = t) wa).setCell (p := ⟨t, 2, none⟩) (fun _ => rfl) _) (fun k hk e => by have := HIN.out.tb; omega))
      obtain ⟨w2, hw2⟩ : ∃ v, wa.setCell ⟨t, 2, none⟩ (.int .i64 (ep + 1)) = v := ⟨_, rfl⟩
      rw [hw2] at HIN2 HK2
      have hwr : IntKind.i64.wrap (ep + 1) = ep + 1 := by rw [IntKind.wrap_i64]; omega
      go_enter Try.func11, Try.ntmps11
      go_wp2_with fail
      clear hwa hy hw2 k2 f2 y0 y1
      have k0 : w2.cell? ⟨t, 0, none⟩ = some _ := Blk.cell HIN2.out.blk rfl
      have k1 : w2.cell? ⟨t, 1, none⟩ = some _ := Blk.cell HIN2.out.blk rfl
      have k2 : w2.cell? ⟨t, 2, none⟩ = some (.int .i64 (ep + 1)) := Blk.cell HIN2.out.blk rfl
      have hbu : ∀ W, (Instr.build 44 #[(0, .int .i64 4), (1, .int .i64 (ep + 1)), (2, .int .i64 1)]).run Try.prog W = .ok (.agg #[.int .i64 4, .int .i64 (ep + 1), .int .i64 1, .int .i64 0, .int .i64 0, .int .i64 0, .int .i64 0, .int .i64 0, .int .i64 0, .string { data := #[] }, .int .i64 0, .slice none 0 0, .int .i64 0, .int .i64 0, .slice none 0 0, .int .i64 0]) W := fun W => by go_simp
      refine Reg.wp_region_plan [⟨0, false, []⟩, ⟨1, false, []⟩, ⟨2, false, []⟩, ⟨3, false, []⟩, ⟨4, false, []⟩, ⟨5, false, []⟩, ⟨6, false, []⟩, ⟨7, false, []⟩, ⟨8, false, []⟩, ⟨9, false, []⟩, ⟨10, false, []⟩, ⟨11, false, []⟩, ⟨12, true, []⟩] rfl (by kernel_rfl) ?_
      repeat (first | (refine Reg.look rfl rfl rfl (by go_simp; rfl) rfl ?_; go_simp) | (refine Reg.skip rfl rfl rfl ?_; go_simp))
      obtain ⟨wd, hwd⟩ : ∃ v, w2.drew = v := ⟨_, rfl⟩
      have hkd : Kp No w2 wd := by rw [← hwd]; exact (Kp.refl _ _).drew
      rw [hwd]
      have hok2 : TOk i { T with epoch := ep + 1 } := ⟨HOK.out.led, HOK.out.sent, HOK.out.many, by show 0 ≤ ep + 1 ∧ ep + 1 ≤ 16; omega⟩
      have hA := (HIN2.out.keptNo hkd).applyC (HK2.out.trans' hkd) hok2 hi true (reignC (ep + 1) true) none none 0 0 No (Rp.none_ _ _ _) (Rp.none_ _ _ _) (fun _ h => h.elim) (by show -9223372036854775808 ≤ (0 : Int) ∧ (0 : Int) < 9223372036854775808; omega) ⟨Nat.zero_le _, Nat.zero_le _, fun o ho => absurd ho List.not_mem_nil⟩
      unfold cmdV reignC opZ sI at hA
      simp only [if_true, List.length_nil] at hA
      have HA := Lib.hid hA
      clear hA hwd hkd k0 k1 k2 hbu
      refine Reg.act rfl ?_
      go_wp2_with fail
      refine HA.out.mono ?_
      rintro e w3 ⟨rfl, F2, hin3, hk3⟩
      have HFIN : Hid (TNew w0 w3 t (reignT true T)) := Lib.hid (by rw [HT.out]; exact ⟨hk3, xs, F2, sv, tv, S, hin3⟩)
      clear hin3 hk3 HA
      go_wp2_with fail
      (refine ⟨?anew, ?_⟩; case anew => ((repeat (refine Reg.anew_cons rfl rfl (fun _ => by go_simp) ?_)); exact Reg.anew_nil))
      repeat (first | (refine Reg.look rfl rfl rfl (by go_simp; rfl) rfl ?_; go_simp) | (refine Reg.skip rfl rfl rfl ?_; go_simp))
      (refine Reg.done ?_; simp only [Exit.then])
      go_wp2_with fail
      go_end0
      exact ⟨rfl, HFIN.out⟩
    · have hT : reignT true T = T := by unfold reignT; rw [HEP.out, if_neg he16]
      have HT := Lib.hid hT
      clear hT
      go_enter Try.func11, Try.ntmps11
      go_wp2_with fail
      go_end0
      exact ⟨rfl, by rw [HT.out]; exact ⟨HK0.out, xs, F, sv, tv, S, HIN.out⟩⟩
set_option maxRecDepth 100000 in
set_option maxHeartbeats 8000000 in
theorem t_turn2 (w0 w : World) (t : Nat) (x : TurnL) (A : Option Addr) (c : Nat) (i : Nat) (T : TV) (h : TNew w0 w t T) (hok : TOk i T) (hi : i ≤ 1000) (hkd : x.kind = 2) (hnu : x.nums) (hh : Rp.str.slice.R w0 (fun k => k < w0.heap.size) [.slice A x.op.hashes.length c] x.op.hashes) (hsm : x.op.hashes.length ≤ 1000000) :
    Calls Try.prog 11 #[.pointer (some ⟨t, 0, none⟩), turnV x (.slice A x.op.hashes.length c)] w fun e w' => e = .returned (.tuple #[]) ∧ TNew w0 w' t (doT (sOf x.site) (clearO x.op) T) := by
  obtain ⟨hk0, xs, F, sv, tv, S, hin⟩ := h
  obtain ⟨b, hb⟩ : ∃ b, sOf x.site = b := ⟨_, rfl⟩
  have hmod := sOf_mod hb
  have hszb := bounds_I64 hnu.2.2.2.2.2.2.2.2.2.2.2
  rw [hb]
  unfold turnV turnC
  obtain ⟨kd, st, at2, sm, ⟨on, oe, ok, os, oc, oq, onm, osz, ohs⟩⟩ := x
  simp only at *
  subst hkd
  obtain ⟨kd, hkd⟩ : ∃ k : Int, k = 2 := ⟨_, rfl⟩
  obtain ⟨hn, hhn⟩ : ∃ k, ohs.length = k := ⟨_, rfl⟩
  have HHN := Lib.hid hhn
  have HH := Lib.hid hh
  have HSZ := Lib.hid hszb
  rw [hhn]
  rw [hhn] at hsm
  clear hhn hb hh hnu hszb
  rw [← hkd]
  obtain ⟨wa, hwa⟩ : ∃ v, w.alloc (.cells #[.int .i64 kd, .int .i64 st, .int .i64 at2, .int .i64 sm, .int .i64 on, .int .i64 oe, .int .i64 ok, .int .i64 os, .int .i64 oc, .int .i64 oq, .string onm, .int .i64 osz, .slice A hn c] 40) = v := ⟨_, rfl⟩
  obtain ⟨y, hy⟩ : ∃ v, w.heap.size = v := ⟨_, rfl⟩
  have HINW := Lib.hid hin
  have HYW : Hid (y = w.heap.size) := Lib.hid hy.symm
  have HKA := Lib.hid (show Kp No w wa by rw [← hwa]; exact (Kp.refl _ _).alloc _)
  have hka : Kp No w wa := by rw [← hwa]; exact (Kp.refl _ _).alloc _
  have hba : Blk wa y 40 [.int .i64 kd, .int .i64 st, .int .i64 at2, .int .i64 sm, .int .i64 on, .int .i64 oe, .int .i64 ok, .int .i64 os, .int .i64 oc, .int .i64 oq, .string onm, .int .i64 osz, .slice A hn c] := by rw [← hwa, ← hy]; exact Blk.new w _ _
  have hyt : y ≠ t := fun e => by have := Blk.lt hin.blk; omega
  have HYT := Lib.hid hyt
  have HIN := Lib.hid (hin.keptNo hka)
  have HK0 := Lib.hid (hk0.trans' hka)
  have HBA := Lib.hid hba
  have HYG : Hid (w0.heap.size ≤ y) := Lib.hid (by rw [← hy]; exact hk0.size)
  have y0 : wa.cell? ⟨y, 0, none⟩ = some (.int .i64 kd) := Blk.cell hba rfl
  have y1 : wa.cell? ⟨y, 1, none⟩ = some (.int .i64 st) := Blk.cell hba rfl
  clear hin hka hba hk0 hyt
  subst hkd
  have HOK := Lib.hid hok
  clear hok
  have y4 : wa.cell? ⟨y, 4, none⟩ = some _ := Blk.cell HBA.out rfl
  have y5 : wa.cell? ⟨y, 5, none⟩ = some _ := Blk.cell HBA.out rfl
  have y7 : wa.cell? ⟨y, 7, none⟩ = some _ := Blk.cell HBA.out rfl
  have f4 := Blk.fr HBA.out 4
  have f5 := Blk.fr HBA.out 5
  have f7 := Blk.fr HBA.out 7
  obtain ⟨w2, hw2⟩ : ∃ v, ((wa.setCell ⟨y, 4, none⟩ (.int .i64 0)).setCell ⟨y, 5, none⟩ (.int .i64 0)).setCell ⟨y, 7, none⟩ (.int .i64 0) = v := ⟨_, rfl⟩
  have hb2 := Blk.set (Blk.set (Blk.set HBA.out 4 (.int .i64 0)) 5 (.int .i64 0)) 7 (.int .i64 0)
  have hk2 : Kp (· = y) wa (((wa.setCell ⟨y, 4, none⟩ (.int .i64 0)).setCell ⟨y, 5, none⟩ (.int .i64 0)).setCell ⟨y, 7, none⟩ (.int .i64 0)) := (((Kp.refl (· = y) wa).setCell (p := ⟨y, 4, none⟩) (fun _ => rfl) _).setCell (p := ⟨y, 5, none⟩) (fun _ => rfl) _).setCell (p := ⟨y, 7, none⟩) (fun _ => rfl) _
  rw [hw2] at hb2 hk2
  have HB2 := Lib.hid hb2
  have HK2a := Lib.hid hk2
  have hmod2 := hmod
  clear hb2 hk2
  cases b
  · skip
    unfold sI at hmod
    simp only [Bool.false_eq_true, if_false] at hmod
    clear hmod2
    go_enter Try.func11, Try.ntmps11
    go_wp2_with fail
    clear hwa hy hw2 y0 y1 y4 y5 y7 f4 f5 f7
    have hkw : Kp No w w2 := HKA.out.trans HK2a.out (fun k hk e => by have := HYW.out; omega)
    have HINd : Hid (TIn w0.heap.size w2.drew t xs F sv tv S T) := Lib.hid (HINW.out.keptNo hkw.drew)
    have HKd : Hid (Kp No w0 w2.drew) := Lib.hid ((HK0.out.trans HK2a.out (fun k hk e => by have := HYG.out; omega)).drew)
    have HBd := Lib.hid (HB2.out.kept ((Kp.refl No w2).drew) (fun z => z))
    refine Reg.wp_region_plan [⟨0, false, []⟩, ⟨1, false, []⟩, ⟨2, false, []⟩, ⟨3, false, []⟩, ⟨4, false, []⟩, ⟨5, false, []⟩, ⟨6, false, []⟩, ⟨7, false, []⟩, ⟨8, false, []⟩, ⟨9, false, []⟩, ⟨10, false, []⟩, ⟨11, false, []⟩, ⟨13, false, []⟩, ⟨14, false, []⟩, ⟨15, false, []⟩, ⟨12, true, [2, 3, 4, 5, 14, 15]⟩, ⟨16, false, []⟩, ⟨17, true, []⟩] rfl (by kernel_rfl) ?_
    obtain ⟨wd, hwd⟩ : ∃ v, w2.drew = v := ⟨_, rfl⟩
    rw [hwd] at HINd HKd HBd ⊢
    clear hwd hkw
    have k0 : wd.cell? ⟨t, 0, none⟩ = some _ := Blk.cell HINd.out.blk rfl
    have k1 : wd.cell? ⟨t, 1, none⟩ = some _ := Blk.cell HINd.out.blk rfl
    have y4 : wd.cell? ⟨y, 4, none⟩ = some (.int .i64 0) := Blk.cell HBd.out rfl
    have y5 : wd.cell? ⟨y, 5, none⟩ = some (.int .i64 0) := Blk.cell HBd.out rfl
    have y6 : wd.cell? ⟨y, 6, none⟩ = some (.int .i64 ok) := Blk.cell HBd.out rfl
    have y7 : wd.cell? ⟨y, 7, none⟩ = some (.int .i64 0) := Blk.cell HBd.out rfl
    have y8 : wd.cell? ⟨y, 8, none⟩ = some (.int .i64 oc) := Blk.cell HBd.out rfl
    have y9 : wd.cell? ⟨y, 9, none⟩ = some (.int .i64 oq) := Blk.cell HBd.out rfl
    have y10 : wd.cell? ⟨y, 10, none⟩ = some (.string onm) := Blk.cell HBd.out rfl
    have y11 : wd.cell? ⟨y, 11, none⟩ = some (.int .i64 osz) := Blk.cell HBd.out rfl
    have y12 : wd.cell? ⟨y, 12, none⟩ = some (.slice A hn c) := Blk.cell HBd.out rfl
    have hfe := a_fence (xs false) (T.l false) (F false) wd (HINd.out.led false)
    have hA := HINd.out.applyC HKd.out HOK.out hi false (doC (T.l false).fence false (clearO ⟨on, oe, ok, os, oc, oq, onm, osz, ohs⟩)) A none c 0 (fun k => k < w0.heap.size) (Rp.str.slice.keptNo HH.out HKd.out) (Rp.none_ _ _ _) (fun k hk _ hF => by have := HINd.out.fb false k hF; omega) HSZ.out ⟨by show ohs.length ≤ 1000000; rw [HHN.out]; exact hsm, Nat.zero_le _, fun o ho => absurd ho List.not_mem_nil⟩
    have hT : doT false (clearO ⟨on, oe, ok, os, oc, oq, onm, osz, ohs⟩) T = T.put false (applyL (doC (T.l false).fence false (clearO ⟨on, oe, ok, os, oc, oq, onm, osz, ohs⟩)) (T.l false)).2 := rfl
    rw [← hT] at hA
    obtain ⟨T2, hT2⟩ : ∃ v, doT false (clearO ⟨on, oe, ok, os, oc, oq, onm, osz, ohs⟩) T = v := ⟨_, rfl⟩
    obtain ⟨D, hD⟩ : ∃ v, (applyL (doC (T.l false).fence false (clearO ⟨on, oe, ok, os, oc, oq, onm, osz, ohs⟩)) (T.l false)).1 = v := ⟨_, rfl⟩
    rw [hT2, hD] at hA
    have HT2 := Lib.hid hT2
    clear hT hT2 hD
    obtain ⟨f, hf⟩ : ∃ v, (T.l false).fence = v := ⟨_, rfl⟩
    rw [hf] at hA hfe
    unfold cmdV doC clearO doneV sI at hA
    simp only [Bool.false_eq_true, if_false, List.length_nil] at hA
    rw [HHN.out] at hA
    have HA := Lib.hid hA
    have HFE := Lib.hid hfe
    have hbu : ∀ W, (Instr.build 44 #[(0, .int .i64 1), (1, .int .i64 f), (2, .int .i64 0), (3, .agg #[.int .i64 0, .int .i64 0, .int .i64 ok, .int .i64 0, .int .i64 oc, .int .i64 oq, .string onm, .int .i64 osz, .slice A hn c])]).run Try.prog W = .ok (.agg #[.int .i64 1, .int .i64 f, .int .i64 0, .int .i64 0, .int .i64 0, .int .i64 ok, .int .i64 0, .int .i64 oc, .int .i64 oq, .string onm, .int .i64 osz, .slice A hn c, .int .i64 0, .int .i64 0, .slice none 0 0, .int .i64 0]) W := fun W => by go_simp
    clear hA hfe hf
    repeat (first | (refine Reg.look rfl rfl rfl (by go_simp; rfl) rfl ?_; go_simp) | (refine Reg.skip rfl rfl rfl ?_; go_simp))
    refine Reg.act rfl ?_
    go_wp2_with fail
    refine HFE.out.mono ?_
    rintro e w3 ⟨rfl, rfl⟩
    clear HFE
    go_wp2_with fail
    (refine ⟨?anew, ?_⟩; case anew => ((repeat (refine Reg.anew_cons rfl rfl (fun _ => by go_simp) ?_)); exact Reg.anew_nil))
    repeat (first | (refine Reg.look rfl rfl rfl (by go_simp; rfl) rfl ?_; go_simp) | (refine Reg.skip rfl rfl rfl ?_; go_simp))
    clear k0 k1 y4 y5 y6 y7 y8 y9 y10 y11 y12 hbu
    refine Reg.act rfl ?_
    go_wp2_with fail
    refine HA.out.mono ?_
    rintro e w4 ⟨rfl, F2, hin4, hk4⟩
    have HFIN : Hid (TNew w0 w4 t T2) := Lib.hid ⟨hk4, xs, F2, sv, tv, S, hin4⟩
    clear hin4 hk4 HA
    go_wp2_with fail
    (refine ⟨?anew, ?_⟩; case anew => ((repeat (refine Reg.anew_cons rfl rfl (fun _ => by go_simp) ?_)); exact Reg.anew_nil))
    repeat (first | (refine Reg.look rfl rfl rfl (by go_simp; rfl) rfl ?_; go_simp) | (refine Reg.skip rfl rfl rfl ?_; go_simp))
    (refine Reg.done ?_; simp only [Exit.then])
    go_wp2_with fail
    go_end0
    exact ⟨rfl, by rw [HT2.out]; exact HFIN.out⟩
  · skip
    unfold sI at hmod
    simp only [if_true] at hmod
    clear hmod2
    go_enter Try.func11, Try.ntmps11
    go_wp2_with fail
    clear hwa hy hw2 y0 y1 y4 y5 y7 f4 f5 f7
    have hkw : Kp No w w2 := HKA.out.trans HK2a.out (fun k hk e => by have := HYW.out; omega)
    have HINd : Hid (TIn w0.heap.size w2.drew t xs F sv tv S T) := Lib.hid (HINW.out.keptNo hkw.drew)
    have HKd : Hid (Kp No w0 w2.drew) := Lib.hid ((HK0.out.trans HK2a.out (fun k hk e => by have := HYG.out; omega)).drew)
    have HBd := Lib.hid (HB2.out.kept ((Kp.refl No w2).drew) (fun z => z))
    refine Reg.wp_region_plan [⟨0, false, []⟩, ⟨1, false, []⟩, ⟨2, false, []⟩, ⟨3, false, []⟩, ⟨4, false, []⟩, ⟨5, false, []⟩, ⟨6, false, []⟩, ⟨7, false, []⟩, ⟨8, false, []⟩, ⟨9, false, []⟩, ⟨10, false, []⟩, ⟨11, false, []⟩, ⟨13, false, []⟩, ⟨14, false, []⟩, ⟨15, false, []⟩, ⟨12, true, [2, 3, 4, 5, 14, 15]⟩, ⟨16, false, []⟩, ⟨17, true, []⟩] rfl (by kernel_rfl) ?_
    obtain ⟨wd, hwd⟩ : ∃ v, w2.drew = v := ⟨_, rfl⟩
    rw [hwd] at HINd HKd HBd ⊢
    clear hwd hkw
    have k0 : wd.cell? ⟨t, 0, none⟩ = some _ := Blk.cell HINd.out.blk rfl
    have k1 : wd.cell? ⟨t, 1, none⟩ = some _ := Blk.cell HINd.out.blk rfl
    have y4 : wd.cell? ⟨y, 4, none⟩ = some (.int .i64 0) := Blk.cell HBd.out rfl
    have y5 : wd.cell? ⟨y, 5, none⟩ = some (.int .i64 0) := Blk.cell HBd.out rfl
    have y6 : wd.cell? ⟨y, 6, none⟩ = some (.int .i64 ok) := Blk.cell HBd.out rfl
    have y7 : wd.cell? ⟨y, 7, none⟩ = some (.int .i64 0) := Blk.cell HBd.out rfl
    have y8 : wd.cell? ⟨y, 8, none⟩ = some (.int .i64 oc) := Blk.cell HBd.out rfl
    have y9 : wd.cell? ⟨y, 9, none⟩ = some (.int .i64 oq) := Blk.cell HBd.out rfl
    have y10 : wd.cell? ⟨y, 10, none⟩ = some (.string onm) := Blk.cell HBd.out rfl
    have y11 : wd.cell? ⟨y, 11, none⟩ = some (.int .i64 osz) := Blk.cell HBd.out rfl
    have y12 : wd.cell? ⟨y, 12, none⟩ = some (.slice A hn c) := Blk.cell HBd.out rfl
    have hfe := a_fence (xs true) (T.l true) (F true) wd (HINd.out.led true)
    have hA := HINd.out.applyC HKd.out HOK.out hi true (doC (T.l true).fence true (clearO ⟨on, oe, ok, os, oc, oq, onm, osz, ohs⟩)) A none c 0 (fun k => k < w0.heap.size) (Rp.str.slice.keptNo HH.out HKd.out) (Rp.none_ _ _ _) (fun k hk _ hF => by have := HINd.out.fb true k hF; omega) HSZ.out ⟨by show ohs.length ≤ 1000000; rw [HHN.out]; exact hsm, Nat.zero_le _, fun o ho => absurd ho List.not_mem_nil⟩
    have hT : doT true (clearO ⟨on, oe, ok, os, oc, oq, onm, osz, ohs⟩) T = T.put true (applyL (doC (T.l true).fence true (clearO ⟨on, oe, ok, os, oc, oq, onm, osz, ohs⟩)) (T.l true)).2 := rfl
    rw [← hT] at hA
    obtain ⟨T2, hT2⟩ : ∃ v, doT true (clearO ⟨on, oe, ok, os, oc, oq, onm, osz, ohs⟩) T = v := ⟨_, rfl⟩
    obtain ⟨D, hD⟩ : ∃ v, (applyL (doC (T.l true).fence true (clearO ⟨on, oe, ok, os, oc, oq, onm, osz, ohs⟩)) (T.l true)).1 = v := ⟨_, rfl⟩
    rw [hT2, hD] at hA
    have HT2 := Lib.hid hT2
    clear hT hT2 hD
    obtain ⟨f, hf⟩ : ∃ v, (T.l true).fence = v := ⟨_, rfl⟩
    rw [hf] at hA hfe
    unfold cmdV doC clearO doneV sI at hA
    simp only [if_true, List.length_nil] at hA
    rw [HHN.out] at hA
    have HA := Lib.hid hA
    have HFE := Lib.hid hfe
    have hbu : ∀ W, (Instr.build 44 #[(0, .int .i64 1), (1, .int .i64 f), (2, .int .i64 1), (3, .agg #[.int .i64 0, .int .i64 0, .int .i64 ok, .int .i64 0, .int .i64 oc, .int .i64 oq, .string onm, .int .i64 osz, .slice A hn c])]).run Try.prog W = .ok (.agg #[.int .i64 1, .int .i64 f, .int .i64 1, .int .i64 0, .int .i64 0, .int .i64 ok, .int .i64 0, .int .i64 oc, .int .i64 oq, .string onm, .int .i64 osz, .slice A hn c, .int .i64 0, .int .i64 0, .slice none 0 0, .int .i64 0]) W := fun W => by go_simp
    clear hA hfe hf
    repeat (first | (refine Reg.look rfl rfl rfl (by go_simp; rfl) rfl ?_; go_simp) | (refine Reg.skip rfl rfl rfl ?_; go_simp))
    refine Reg.act rfl ?_
    go_wp2_with fail
    refine HFE.out.mono ?_
    rintro e w3 ⟨rfl, rfl⟩
    clear HFE
    go_wp2_with fail
    (refine ⟨?anew, ?_⟩; case anew => ((repeat (refine Reg.anew_cons rfl rfl (fun _ => by go_simp) ?_)); exact Reg.anew_nil))
    repeat (first | (refine Reg.look rfl rfl rfl (by go_simp; rfl) rfl ?_; go_simp) | (refine Reg.skip rfl rfl rfl ?_; go_simp))
    clear k0 k1 y4 y5 y6 y7 y8 y9 y10 y11 y12 hbu
    refine Reg.act rfl ?_
    go_wp2_with fail
    refine HA.out.mono ?_
    rintro e w4 ⟨rfl, F2, hin4, hk4⟩
    have HFIN : Hid (TNew w0 w4 t T2) := Lib.hid ⟨hk4, xs, F2, sv, tv, S, hin4⟩
    clear hin4 hk4 HA
    go_wp2_with fail
    (refine ⟨?anew, ?_⟩; case anew => ((repeat (refine Reg.anew_cons rfl rfl (fun _ => by go_simp) ?_)); exact Reg.anew_nil))
    repeat (first | (refine Reg.look rfl rfl rfl (by go_simp; rfl) rfl ?_; go_simp) | (refine Reg.skip rfl rfl rfl ?_; go_simp))
    (refine Reg.done ?_; simp only [Exit.then])
    go_wp2_with fail
    go_end0
    exact ⟨rfl, by rw [HT2.out]; exact HFIN.out⟩
end

section
open Go.RowKit Go.ChangeShapes Go.WideShapes Go.ChangeAt

theorem capT_le {α : Type} {E : Rp α} {w : World} {S : Nat → Prop} {A : Option Addr} {n c : Nat} {l : List α} (h : E.slice.R w S [.slice A n c] l) : l.length ≤ c := by
  obtain ⟨A2, c2, he, h1, _⟩ := h
  simp only [List.cons.injEq, Value.slice.injEq, and_true] at he
  omega

set_option maxRecDepth 100000 in
set_option maxHeartbeats 8000000 in
theorem t_turn3 (w0 w : World) (t : Nat) (x : TurnL) (A : Option Addr) (c : Nat) (i : Nat) (T : TV) (h : TNew w0 w t T) (hok : TOk i T) (hi : i ≤ 900) (hkd : x.kind = 3) :
    Calls Try.prog 11 #[.pointer (some ⟨t, 0, none⟩), turnV x (.slice A x.op.hashes.length c)] w fun e w' => e = .returned (.tuple #[]) ∧ TNew w0 w' t (sendT (sOf x.site) x.at_ x.some_ T) := by
  obtain ⟨b, hb⟩ : ∃ b, sOf x.site = b := ⟨_, rfl⟩
  have hmod := sOf_mod hb
  rw [hb]
  unfold turnV turnC
  obtain ⟨kd, st, at2, sm, ⟨on, oe, ok, os, oc, oq, onm, osz, ohs⟩⟩ := x
  simp only at *
  subst hkd
  obtain ⟨kd, hkd⟩ : ∃ k : Int, k = 3 := ⟨_, rfl⟩
  obtain ⟨hn, hhn⟩ : ∃ k, ohs.length = k := ⟨_, rfl⟩
  rw [hhn]
  clear hhn hb
  rw [← hkd]
  obtain ⟨wa, hwa⟩ : ∃ v, w.alloc (.cells #[.int .i64 kd, .int .i64 st, .int .i64 at2, .int .i64 sm, .int .i64 on, .int .i64 oe, .int .i64 ok, .int .i64 os, .int .i64 oc, .int .i64 oq, .string onm, .int .i64 osz, .slice A hn c] 40) = v := ⟨_, rfl⟩
  obtain ⟨y, hy⟩ : ∃ v, w.heap.size = v := ⟨_, rfl⟩
  have hka : Kp No w wa := by rw [← hwa]; exact (Kp.refl _ _).alloc _
  have hba : Blk wa y 40 [.int .i64 kd, .int .i64 st, .int .i64 at2, .int .i64 sm, .int .i64 on, .int .i64 oe, .int .i64 ok, .int .i64 os, .int .i64 oc, .int .i64 oq, .string onm, .int .i64 osz, .slice A hn c] := by rw [← hwa, ← hy]; exact Blk.new w _ _
  have y0 : wa.cell? ⟨y, 0, none⟩ = some (.int .i64 kd) := Blk.cell hba rfl
  have y1 : wa.cell? ⟨y, 1, none⟩ = some (.int .i64 st) := Blk.cell hba rfl
  have y2 : wa.cell? ⟨y, 2, none⟩ = some (.int .i64 at2) := Blk.cell hba rfl
  have y3 : wa.cell? ⟨y, 3, none⟩ = some (.int .i64 sm) := Blk.cell hba rfl
  have HN := Lib.hid (h.keptNo hka)
  clear hka hba
  subst hkd
  have HOK := Lib.hid hok
  clear hok h
  cases b
  · skip
    have hS := t_ship w0 wa t false at2 sm i T HN.out HOK.out (by omega)
    obtain ⟨T1, hT1⟩ : ∃ v, shipT false at2 sm T = v := ⟨_, rfl⟩
    obtain ⟨R, hR⟩ : ∃ v, decide (shipsP (T.l false) false) = v := ⟨_, rfl⟩
    rw [hT1, hR] at hS
    unfold sI at hS hmod
    simp only [Bool.false_eq_true, if_false] at hS hmod
    have HT1 := Lib.hid hT1
    have HR := Lib.hid hR
    have HS := Lib.hid hS
    clear hT1 hR hS
    go_enter Try.func11, Try.ntmps11
    go_wp2_with fail
    clear hwa hy y0 y1 y2 y3
    refine HS.out.mono ?_
    rintro e w3 ⟨rfl, hn3⟩
    cases R
    case false =>
      have HFIN : Hid (TNew w0 w3 t (sendT false at2 sm T)) := Lib.hid (by
        have h1 := of_decide_eq_false HR.out
        unfold sendT
        rw [if_neg h1]
        have h2 := HT1.out
        unfold shipT at h2
        rw [if_neg h1] at h2
        rw [h2]; exact hn3)
      clear hn3
      go_wp2_with fail
      go_end0
      exact ⟨rfl, HFIN.out⟩
    case true =>
      obtain ⟨hk3, xs, F, sv, tv, S, hin⟩ := hn3
      have h1 := of_decide_eq_true HR.out
      have h2 := HT1.out
      unfold shipT at h2
      rw [if_pos h1] at h2
      have hsend : sendT false at2 sm T = cameT (sentC (T.l false) false at2 sm, true) T1 := by unfold sendT; rw [if_pos h1, HT1.out]; rfl
      have HSEND := Lib.hid hsend
      obtain ⟨C, hC⟩ : ∃ v, sentC (T.l false) false at2 sm = v := ⟨_, rfl⟩
      obtain ⟨k, hk⟩ : ∃ v, T.sent.length = v := ⟨_, rfl⟩
      have hok1 : TOk (i + 1) T1 := by
        obtain ⟨g1, g2⟩ := HOK.out.send false at2 sm (by have := HOK.out.many; omega)
        rw [← h2]
        exact ⟨fun b => (HOK.out.led b).mono (by omega), g1, g2, HOK.out.epoch⟩
      have hp : T1.sent[k]? = some (C, true) := by
        rw [← h2, ← hk, hC]
        show (T.sent ++ [(C, true)])[T.sent.length]? = _
        rw [List.getElem?_append_right (Nat.le_refl _), Nat.sub_self]; rfl
      have hn1 : T1.sent.length = k + 1 := by rw [← h2, ← hk]; show (T.sent ++ _).length = _; rw [List.length_append]; rfl
      have hkm : k ≤ i := by rw [← hk]; exact HOK.out.many
      obtain ⟨wd, hwd⟩ : ∃ v, w3.drew = v := ⟨_, rfl⟩
      have hkd : Kp No w3 wd := by rw [← hwd]; exact (Kp.refl _ _).drew
      have hing := hin.keptNo hkd
      have HKD := Lib.hid (hk3.trans' hkd)
      obtain ⟨ad, c3, ad2, c4, A', c', B', d', hsv, htv, hcell, hnu, hr1, hr2, _⟩ := hing.at_sent hp
      have hsm : SmallC 1000 1000 C := (hok1.sent _ (List.mem_of_getElem? hp)).2
      rw [hn1] at hsv
      subst hsv
      have hcap := capT_le hing.sent.readFrom
      rw [List.length_map, hn1] at hcap
      obtain ⟨z0, z1, z2, z3, z4, z5, z6, z7, z8, z9, z10, z11, z12, z13, z14, z15⟩ := cmd_cells hcell
      have how := r_own C A' B' c' d' wd _ hnu hr1 hr2 (by have := hsm.1; show C.op.hashes.length ≤ _; omega) (by have := hsm.2.1; omega) (fun o ho => by have := hsm.2.2 o ho; omega)
      have hap : ∀ (A3 B3 : Option Addr) (c5 d5 : Nat) (w4 : World), Kp No wd w4 → Rp.str.slice.R w4 (fun k => wd.heap.size ≤ k) [.slice A3 C.op.hashes.length c5] C.op.hashes → Rp.opl.slice.R w4 (fun k => wd.heap.size ≤ k) [.slice B3 C.ops.length d5] C.ops →
          Calls Try.prog 40 #[.pointer (some ⟨xs true, 0, none⟩), cmdV C (.slice A3 C.op.hashes.length c5) (.slice B3 C.ops.length d5)] w4 fun e w' => (∃ v, e = .returned (doneV v)) ∧ TNew w0 w' t (cameT (C, true) T1) := by
        intro A3 B3 c5 d5 w4 hk4 g1 g2
        refine ((hing.keptNo hk4).applyC (HKD.out.trans' hk4) hok1 (by omega) true C A3 B3 c5 d5 (fun k => wd.heap.size ≤ k) g1 g2 (fun k hk _ hF => by have := (hing.led true).lt k hF; omega) (bounds_I64 hnu.2.2.2.1.2.2.2.2.2.2.2) ⟨by have := hsm.1; show C.op.hashes.length ≤ _; omega, by have := hsm.2.1; show C.ops.length ≤ _; omega, fun o ho => by have := hsm.2.2 o ho; omega⟩).mono ?_
        rintro e w' ⟨rfl, F', h5, h6⟩
        exact ⟨⟨_, rfl⟩, h6, xs, F', _, tv, S, h5⟩
      unfold cmdV at how hap
      have HOW := Lib.hid how
      have HAP := Lib.hid hap
      have HING := Lib.hid hing
      have HC := Lib.hid hC
      have k0 : wd.cell? ⟨t, 0, none⟩ = some _ := Blk.cell hing.blk rfl
      have k1 : wd.cell? ⟨t, 1, none⟩ = some _ := Blk.cell hing.blk rfl
      have k3 : wd.cell? ⟨t, 3, none⟩ = some _ := Blk.cell hing.blk rfl
      have hltt : t < wd.heap.size := Blk.lt hing.blk
      have hkk : (k : Int) + 1 - 1 = (k : Int) := by omega
      have hw1 : IntKind.i64.wrap (k : Int) = (k : Int) := by rw [IntKind.wrap_i64]; omega
      have hw2 : IntKind.i64.wrap ((k : Int) + 1 - 1) = (k : Int) := by rw [IntKind.wrap_i64]; omega
      have hkl : (k : Int) < (k : Int) + 1 := by omega
      have hv0 : IntKind.i64.wrap 0 = 0 := by rw [IntKind.wrap_i64]; omega
      have hv1 : IntKind.i64.wrap 1 = 1 := by rw [IntKind.wrap_i64]; omega
      clear h1 h2 hsend hC hk hok1 hp hn1 hcell hnu hr1 hr2 hsm how hap hing hin hk3 hkd
      obtain ⟨ck, ep, sb, ⟨pn, pe, pk, ps, pc, pq, pnm, psz, phs⟩, an, ae, ops, tg⟩ := C
      simp only at *
      go_wp2_with fail
      refine Reg.wp_region_plan [⟨0, false, []⟩, ⟨1, false, []⟩, ⟨2, false, []⟩, ⟨3, false, []⟩, ⟨4, false, []⟩, ⟨5, false, []⟩, ⟨6, false, []⟩, ⟨7, false, []⟩, ⟨8, false, []⟩, ⟨9, false, []⟩, ⟨10, false, []⟩, ⟨11, false, []⟩, ⟨12, false, []⟩, ⟨13, false, []⟩, ⟨14, false, []⟩, ⟨15, false, []⟩, ⟨16, false, []⟩, ⟨17, false, []⟩, ⟨18, false, []⟩, ⟨19, true, [2, 3, 4, 5, 6]⟩, ⟨20, true, []⟩] rfl (by kernel_rfl) ?_
      rw [hwd]
      clear hwd
      repeat (first | (refine Reg.look rfl rfl rfl (by go_simp; rfl) rfl ?_; go_simp) | (refine Reg.skip rfl rfl rfl ?_; go_simp))
      refine Reg.act rfl ?_
      go_wp2_with fail
      clear z0 z1 z2 z3 z4 z5 z6 z7 z8 z9 z10 z11 z12 z13 z14 z15
      refine HOW.out.mono ?_
      rintro e w4 ⟨A5, c5, B5, d5, rfl, g1, g2, hk4⟩
      have HA := Lib.hid (HAP.out A5 B5 c5 d5 w4 hk4 g1 g2)
      have m0 := (hk4.cell hltt (fun z => z)).trans k0
      have m1 := (hk4.cell hltt (fun z => z)).trans k1
      clear g1 g2 hk4 k0 k1 k3
      go_wp2_with fail
      (refine ⟨?anew, ?_⟩; case anew => ((repeat (refine Reg.anew_cons rfl rfl (fun _ => by go_simp) ?_)); exact Reg.anew_nil))
      repeat (first | (refine Reg.look rfl rfl rfl (by go_simp; rfl) rfl ?_; go_simp) | (refine Reg.skip rfl rfl rfl ?_; go_simp))
      refine Reg.act rfl ?_
      go_wp2_with fail
      refine HA.out.mono ?_
      rintro e w5 ⟨⟨v, rfl⟩, hn5⟩
      have HFIN : Hid (TNew w0 w5 t (sendT false at2 sm T)) := Lib.hid (by rw [HSEND.out, HC.out]; exact hn5)
      unfold doneV
      clear hn5 HA
      go_wp2_with fail
      (refine ⟨?anew, ?_⟩; case anew => ((repeat (refine Reg.anew_cons rfl rfl (fun _ => by go_simp) ?_)); exact Reg.anew_nil))
      repeat (first | (refine Reg.look rfl rfl rfl (by go_simp; rfl) rfl ?_; go_simp) | (refine Reg.skip rfl rfl rfl ?_; go_simp))
      (refine Reg.done ?_; simp only [Exit.then])
      go_wp2_with fail
      go_end0
      exact ⟨rfl, HFIN.out⟩
  · skip
    have hS := t_ship w0 wa t true at2 sm i T HN.out HOK.out (by omega)
    obtain ⟨T1, hT1⟩ : ∃ v, shipT true at2 sm T = v := ⟨_, rfl⟩
    obtain ⟨R, hR⟩ : ∃ v, decide (shipsP (T.l true) true) = v := ⟨_, rfl⟩
    rw [hT1, hR] at hS
    unfold sI at hS hmod
    simp only [if_true] at hS hmod
    have HT1 := Lib.hid hT1
    have HR := Lib.hid hR
    have HS := Lib.hid hS
    clear hT1 hR hS
    go_enter Try.func11, Try.ntmps11
    go_wp2_with fail
    clear hwa hy y0 y1 y2 y3
    refine HS.out.mono ?_
    rintro e w3 ⟨rfl, hn3⟩
    cases R
    case false =>
      have HFIN : Hid (TNew w0 w3 t (sendT true at2 sm T)) := Lib.hid (by
        have h1 := of_decide_eq_false HR.out
        unfold sendT
        rw [if_neg h1]
        have h2 := HT1.out
        unfold shipT at h2
        rw [if_neg h1] at h2
        rw [h2]; exact hn3)
      clear hn3
      go_wp2_with fail
      go_end0
      exact ⟨rfl, HFIN.out⟩
    case true =>
      obtain ⟨hk3, xs, F, sv, tv, S, hin⟩ := hn3
      have h1 := of_decide_eq_true HR.out
      have h2 := HT1.out
      unfold shipT at h2
      rw [if_pos h1] at h2
      have hsend : sendT true at2 sm T = cameT (sentC (T.l true) true at2 sm, false) T1 := by unfold sendT; rw [if_pos h1, HT1.out]; rfl
      have HSEND := Lib.hid hsend
      obtain ⟨C, hC⟩ : ∃ v, sentC (T.l true) true at2 sm = v := ⟨_, rfl⟩
      obtain ⟨k, hk⟩ : ∃ v, T.sent.length = v := ⟨_, rfl⟩
      have hok1 : TOk (i + 1) T1 := by
        obtain ⟨g1, g2⟩ := HOK.out.send true at2 sm (by have := HOK.out.many; omega)
        rw [← h2]
        exact ⟨fun b => (HOK.out.led b).mono (by omega), g1, g2, HOK.out.epoch⟩
      have hp : T1.sent[k]? = some (C, false) := by
        rw [← h2, ← hk, hC]
        show (T.sent ++ [(C, false)])[T.sent.length]? = _
        rw [List.getElem?_append_right (Nat.le_refl _), Nat.sub_self]; rfl
      have hn1 : T1.sent.length = k + 1 := by rw [← h2, ← hk]; show (T.sent ++ _).length = _; rw [List.length_append]; rfl
      have hkm : k ≤ i := by rw [← hk]; exact HOK.out.many
      obtain ⟨wd, hwd⟩ : ∃ v, w3.drew = v := ⟨_, rfl⟩
      have hkd : Kp No w3 wd := by rw [← hwd]; exact (Kp.refl _ _).drew
      have hing := hin.keptNo hkd
      have HKD := Lib.hid (hk3.trans' hkd)
      obtain ⟨ad, c3, ad2, c4, A', c', B', d', hsv, htv, hcell, hnu, hr1, hr2, _⟩ := hing.at_sent hp
      have hsm : SmallC 1000 1000 C := (hok1.sent _ (List.mem_of_getElem? hp)).2
      rw [hn1] at hsv
      subst hsv
      have hcap := capT_le hing.sent.readFrom
      rw [List.length_map, hn1] at hcap
      obtain ⟨z0, z1, z2, z3, z4, z5, z6, z7, z8, z9, z10, z11, z12, z13, z14, z15⟩ := cmd_cells hcell
      have how := r_own C A' B' c' d' wd _ hnu hr1 hr2 (by have := hsm.1; show C.op.hashes.length ≤ _; omega) (by have := hsm.2.1; omega) (fun o ho => by have := hsm.2.2 o ho; omega)
      have hap : ∀ (A3 B3 : Option Addr) (c5 d5 : Nat) (w4 : World), Kp No wd w4 → Rp.str.slice.R w4 (fun k => wd.heap.size ≤ k) [.slice A3 C.op.hashes.length c5] C.op.hashes → Rp.opl.slice.R w4 (fun k => wd.heap.size ≤ k) [.slice B3 C.ops.length d5] C.ops →
          Calls Try.prog 40 #[.pointer (some ⟨xs false, 0, none⟩), cmdV C (.slice A3 C.op.hashes.length c5) (.slice B3 C.ops.length d5)] w4 fun e w' => (∃ v, e = .returned (doneV v)) ∧ TNew w0 w' t (cameT (C, false) T1) := by
        intro A3 B3 c5 d5 w4 hk4 g1 g2
        refine ((hing.keptNo hk4).applyC (HKD.out.trans' hk4) hok1 (by omega) false C A3 B3 c5 d5 (fun k => wd.heap.size ≤ k) g1 g2 (fun k hk _ hF => by have := (hing.led false).lt k hF; omega) (bounds_I64 hnu.2.2.2.1.2.2.2.2.2.2.2) ⟨by have := hsm.1; show C.op.hashes.length ≤ _; omega, by have := hsm.2.1; show C.ops.length ≤ _; omega, fun o ho => by have := hsm.2.2 o ho; omega⟩).mono ?_
        rintro e w' ⟨rfl, F', h5, h6⟩
        exact ⟨⟨_, rfl⟩, h6, xs, F', _, tv, S, h5⟩
      unfold cmdV at how hap
      have HOW := Lib.hid how
      have HAP := Lib.hid hap
      have HING := Lib.hid hing
      have HC := Lib.hid hC
      have k0 : wd.cell? ⟨t, 0, none⟩ = some _ := Blk.cell hing.blk rfl
      have k1 : wd.cell? ⟨t, 1, none⟩ = some _ := Blk.cell hing.blk rfl
      have k3 : wd.cell? ⟨t, 3, none⟩ = some _ := Blk.cell hing.blk rfl
      have hltt : t < wd.heap.size := Blk.lt hing.blk
      have hkk : (k : Int) + 1 - 1 = (k : Int) := by omega
      have hw1 : IntKind.i64.wrap (k : Int) = (k : Int) := by rw [IntKind.wrap_i64]; omega
      have hw2 : IntKind.i64.wrap ((k : Int) + 1 - 1) = (k : Int) := by rw [IntKind.wrap_i64]; omega
      have hkl : (k : Int) < (k : Int) + 1 := by omega
      have hv0 : IntKind.i64.wrap 0 = 0 := by rw [IntKind.wrap_i64]; omega
      have hv1 : IntKind.i64.wrap 1 = 1 := by rw [IntKind.wrap_i64]; omega
      clear h1 h2 hsend hC hk hok1 hp hn1 hcell hnu hr1 hr2 hsm how hap hing hin hk3 hkd
      obtain ⟨ck, ep, sb, ⟨pn, pe, pk, ps, pc, pq, pnm, psz, phs⟩, an, ae, ops, tg⟩ := C
      simp only at *
      go_wp2_with fail
      refine Reg.wp_region_plan [⟨0, false, []⟩, ⟨1, false, []⟩, ⟨2, false, []⟩, ⟨3, false, []⟩, ⟨4, false, []⟩, ⟨5, false, []⟩, ⟨6, false, []⟩, ⟨7, false, []⟩, ⟨8, false, []⟩, ⟨9, false, []⟩, ⟨10, false, []⟩, ⟨11, false, []⟩, ⟨12, false, []⟩, ⟨13, false, []⟩, ⟨14, false, []⟩, ⟨15, false, []⟩, ⟨16, false, []⟩, ⟨17, false, []⟩, ⟨18, false, []⟩, ⟨19, true, [2, 3, 4, 5, 6]⟩, ⟨20, true, []⟩] rfl (by kernel_rfl) ?_
      rw [hwd]
      clear hwd
      repeat (first | (refine Reg.look rfl rfl rfl (by go_simp; rfl) rfl ?_; go_simp) | (refine Reg.skip rfl rfl rfl ?_; go_simp))
      refine Reg.act rfl ?_
      go_wp2_with fail
      clear z0 z1 z2 z3 z4 z5 z6 z7 z8 z9 z10 z11 z12 z13 z14 z15
      refine HOW.out.mono ?_
      rintro e w4 ⟨A5, c5, B5, d5, rfl, g1, g2, hk4⟩
      have HA := Lib.hid (HAP.out A5 B5 c5 d5 w4 hk4 g1 g2)
      have m0 := (hk4.cell hltt (fun z => z)).trans k0
      have m1 := (hk4.cell hltt (fun z => z)).trans k1
      clear g1 g2 hk4 k0 k1 k3
      go_wp2_with fail
      (refine ⟨?anew, ?_⟩; case anew => ((repeat (refine Reg.anew_cons rfl rfl (fun _ => by go_simp) ?_)); exact Reg.anew_nil))
      repeat (first | (refine Reg.look rfl rfl rfl (by go_simp; rfl) rfl ?_; go_simp) | (refine Reg.skip rfl rfl rfl ?_; go_simp))
      refine Reg.act rfl ?_
      go_wp2_with fail
      refine HA.out.mono ?_
      rintro e w5 ⟨⟨v, rfl⟩, hn5⟩
      have HFIN : Hid (TNew w0 w5 t (sendT true at2 sm T)) := Lib.hid (by rw [HSEND.out, HC.out]; exact hn5)
      unfold doneV
      clear hn5 HA
      go_wp2_with fail
      (refine ⟨?anew, ?_⟩; case anew => ((repeat (refine Reg.anew_cons rfl rfl (fun _ => by go_simp) ?_)); exact Reg.anew_nil))
      repeat (first | (refine Reg.look rfl rfl rfl (by go_simp; rfl) rfl ?_; go_simp) | (refine Reg.skip rfl rfl rfl ?_; go_simp))
      (refine Reg.done ?_; simp only [Exit.then])
      go_wp2_with fail
      go_end0
      exact ⟨rfl, HFIN.out⟩
end

section
open Go.RowKit Go.ChangeShapes Go.WideShapes Go.ChangeAt

theorem capU_le {α : Type} {E : Rp α} {w : World} {S : Nat → Prop} {A : Option Addr} {n c : Nat} {l : List α} (h : E.slice.R w S [.slice A n c] l) : l.length ≤ c := by
  obtain ⟨A2, c2, he, h1, _⟩ := h
  simp only [List.cons.injEq, Value.slice.injEq, and_true] at he
  omega
set_option maxRecDepth 100000 in
set_option maxHeartbeats 8000000 in
theorem t_turn0 (w0 w : World) (t : Nat) (x : TurnL) (A : Option Addr) (c : Nat) (i : Nat) (T : TV) (h : TNew w0 w t T) (hok : TOk i T) (hi : i ≤ 900) (h1 : x.kind ≠ 1) (h2 : x.kind ≠ 2) (h3 : x.kind ≠ 3) :
    Calls Try.prog 11 #[.pointer (some ⟨t, 0, none⟩), turnV x (.slice A x.op.hashes.length c)] w fun e w' => e = .returned (.tuple #[]) ∧ TNew w0 w' t (againT x.at_ T) := by
  obtain ⟨b0, hb⟩ : ∃ b, (modN x.site 2 : Int) = b := ⟨_, rfl⟩
  have hmod : (IntKind.u64.wrap x.site).tmod 2 = b0 := by rw [← hb]; exact modN_eq x.site (show 0 < 2 by omega)
  have hb0 : 0 ≤ b0 ∧ b0 < 2 := by have := modN_lt x.site (show 0 < 2 by omega); omega
  unfold turnV turnC
  obtain ⟨kd, st, at2, sm, ⟨on, oe, ok, os, oc, oq, onm, osz, ohs⟩⟩ := x
  simp only at *
  have hk1 : (kd == 1) = false := beq_eq_false_iff_ne.2 h1
  have hk2 : (kd == 2) = false := beq_eq_false_iff_ne.2 h2
  have hk3 : (kd == 3) = false := beq_eq_false_iff_ne.2 h3
  obtain ⟨hn, hhn⟩ : ∃ k, ohs.length = k := ⟨_, rfl⟩
  rw [hhn]
  clear hhn hb h1 h2 h3
  obtain ⟨wa, hwa⟩ : ∃ v, w.alloc (.cells #[.int .i64 kd, .int .i64 st, .int .i64 at2, .int .i64 sm, .int .i64 on, .int .i64 oe, .int .i64 ok, .int .i64 os, .int .i64 oc, .int .i64 oq, .string onm, .int .i64 osz, .slice A hn c] 40) = v := ⟨_, rfl⟩
  obtain ⟨y, hy⟩ : ∃ v, w.heap.size = v := ⟨_, rfl⟩
  have hka : Kp No w wa := by rw [← hwa]; exact (Kp.refl _ _).alloc _
  have hba : Blk wa y 40 [.int .i64 kd, .int .i64 st, .int .i64 at2, .int .i64 sm, .int .i64 on, .int .i64 oe, .int .i64 ok, .int .i64 os, .int .i64 oc, .int .i64 oq, .string onm, .int .i64 osz, .slice A hn c] := by rw [← hwa, ← hy]; exact Blk.new w _ _
  have y0 : wa.cell? ⟨y, 0, none⟩ = some (.int .i64 kd) := Blk.cell hba rfl
  have y1 : wa.cell? ⟨y, 1, none⟩ = some (.int .i64 st) := Blk.cell hba rfl
  have y2 : wa.cell? ⟨y, 2, none⟩ = some (.int .i64 at2) := Blk.cell hba rfl
  obtain ⟨hkw, xs, F, sv, tv, S, hin⟩ := h.keptNo hka
  have HOK := Lib.hid hok
  obtain ⟨n, hnn⟩ : ∃ n, T.sent.length = n := ⟨_, rfl⟩
  obtain ⟨A9, c9, hsh⟩ := hin.sent.shape
  rw [List.length_map, hnn] at hsh
  subst hsh
  have hni : n ≤ 900 := by have := hok.many; omega
  clear h hok hka hba
  have k3 : wa.cell? ⟨t, 3, none⟩ = some (.slice A9 n c9) := Blk.cell hin.blk rfl
  by_cases hn0 : n = 0
  · subst hn0
    have hT : againT at2 T = T := by
      unfold againT
      rw [List.eq_nil_of_length_eq_zero hnn]; rfl
    have HT := Lib.hid hT
    have HIN := Lib.hid hin
    have HKW := Lib.hid hkw
    clear hT hin hkw hnn
    go_enter Try.func11, Try.ntmps11
    go_wp2_with fail
    go_end0
    exact ⟨rfl, by rw [HT.out]; exact ⟨HKW.out, xs, F, _, tv, S, HIN.out⟩⟩
  · have hnp : (0 : Int) < (n : Int) := by omega
    obtain ⟨k, hk⟩ : ∃ k, modN at2 n = k := ⟨_, rfl⟩
    have hmk : (IntKind.u64.wrap at2).tmod (n : Int) = (k : Int) := by rw [← hk]; exact modN_eq at2 (by omega)
    have hkl : k < n := by rw [← hk]; exact modN_lt at2 (by omega)
    obtain ⟨p, hp⟩ : ∃ p, T.sent[k]? = some p := ⟨_, List.getElem?_eq_getElem (by omega)⟩
    have hag : againT at2 T = cameT p T := by
      unfold againT
      rw [hnn, hk, hp]
    have HAG := Lib.hid hag
    have hw1 : IntKind.u64.wrap (n : Int) = (n : Int) := by simp [IntKind.wrap, IntKind.bits, IntKind.signed]; omega
    have hw2 : IntKind.i64.wrap (k : Int) = (k : Int) := by rw [IntKind.wrap_i64]; omega
    have hnz : ¬ ((n : Int) = 0) := by omega
    have hkn : (k : Int) < (n : Int) := by omega
    clear hag hk hn0
    obtain ⟨wd, hwd⟩ : ∃ v, wa.drew = v := ⟨_, rfl⟩
    have hkd : Kp No wa wd := by rw [← hwd]; exact (Kp.refl _ _).drew
    have hing := hin.keptNo hkd
    have HKD := Lib.hid (hkw.trans' hkd)
    obtain ⟨ad, c3, ad2, c4, A', c', B', d', hsv, htv, hcell, hnu, hr1, hr2, hto⟩ := hing.at_sent hp
    rw [hnn] at hsv htv
    injection hsv with e1 _ e3
    subst e1 e3 htv
    have hsm : SmallC 1000 1000 p.1 := (HOK.out.sent _ (List.mem_of_getElem? hp)).2
    have k4 : wa.cell? ⟨t, 4, none⟩ = some (.slice (some ad2) n c4) := Blk.cell hin.blk rfl
    have l3 : wd.cell? ⟨t, 3, none⟩ = some (.slice (some ad) n c9) := Blk.cell hing.blk rfl
    have l4 : wd.cell? ⟨t, 4, none⟩ = some (.slice (some ad2) n c4) := Blk.cell hing.blk rfl
    have l0 : wd.cell? ⟨t, 0, none⟩ = some _ := Blk.cell hing.blk rfl
    have l1 : wd.cell? ⟨t, 1, none⟩ = some _ := Blk.cell hing.blk rfl
    have hltt : t < wd.heap.size := Blk.lt hing.blk
    obtain ⟨C, b⟩ := p
    simp only at hcell hnu hr1 hr2 hto hsm
    obtain ⟨z0, z1, z2, z3, z4, z5, z6, z7, z8, z9, z10, z11, z12, z13, z14, z15⟩ := cmd_cells hcell
    have how := r_own C A' B' c' d' wd _ hnu hr1 hr2 (by have := hsm.1; show C.op.hashes.length ≤ _; omega) (by have := hsm.2.1; omega) (fun o ho => by have := hsm.2.2 o ho; omega)
    have hap : ∀ (A3 B3 : Option Addr) (c5 d5 : Nat) (w4 : World), Kp No wd w4 → Rp.str.slice.R w4 (fun k => wd.heap.size ≤ k) [.slice A3 C.op.hashes.length c5] C.op.hashes → Rp.opl.slice.R w4 (fun k => wd.heap.size ≤ k) [.slice B3 C.ops.length d5] C.ops →
        Calls Try.prog 40 #[.pointer (some ⟨xs b, 0, none⟩), cmdV C (.slice A3 C.op.hashes.length c5) (.slice B3 C.ops.length d5)] w4 fun e w' => (∃ v, e = .returned (doneV v)) ∧ TNew w0 w' t (cameT (C, b) T) := by
      intro A3 B3 c5 d5 w4 hk4 g1 g2
      refine ((hing.keptNo hk4).applyC (HKD.out.trans' hk4) HOK.out (by omega) b C A3 B3 c5 d5 (fun k => wd.heap.size ≤ k) g1 g2 (fun k hk _ hF => by have := (hing.led b).lt k hF; omega) (bounds_I64 hnu.2.2.2.1.2.2.2.2.2.2.2) ⟨by have := hsm.1; show C.op.hashes.length ≤ _; omega, by have := hsm.2.1; show C.ops.length ≤ _; omega, fun o ho => by have := hsm.2.2 o ho; omega⟩).mono ?_
      rintro e w' ⟨rfl, F', h5, h6⟩
      exact ⟨⟨_, rfl⟩, h6, xs, F', _, _, S, h5⟩
    unfold cmdV at how hap
    have HOW := Lib.hid how
    have HAP := Lib.hid hap
    have hv0 : IntKind.i64.wrap 0 = 0 := by rw [IntKind.wrap_i64]; omega
    have hv1 : IntKind.i64.wrap 1 = 1 := by rw [IntKind.wrap_i64]; omega
    clear hcell hnu hr1 hr2 hsm how hap hing hin hkd hkw hp hnn
    obtain ⟨ck, ep, sb, ⟨pn, pe, pk, ps, pc, pq, pnm, psz, phs⟩, an, ae, ops, tg⟩ := C
    simp only at *
    cases b
    · skip
      unfold sI at hto
      simp only [Bool.false_eq_true, if_false] at hto
      go_enter Try.func11, Try.ntmps11
      go_wp2_with fail
      clear hwa hy y0 y1 y2 k3 k4
      refine Reg.wp_region_plan [⟨0, false, []⟩, ⟨1, false, []⟩, ⟨2, false, []⟩, ⟨3, false, []⟩, ⟨4, false, []⟩, ⟨5, false, []⟩, ⟨6, false, []⟩, ⟨7, false, []⟩, ⟨8, false, []⟩, ⟨9, false, []⟩, ⟨10, false, []⟩, ⟨11, false, []⟩, ⟨12, false, []⟩, ⟨13, false, []⟩, ⟨14, false, []⟩, ⟨15, false, []⟩, ⟨16, false, []⟩, ⟨17, false, []⟩, ⟨18, false, []⟩, ⟨19, true, [2, 3, 4, 6, 7, 8, 9, 10, 11]⟩, ⟨20, true, []⟩] rfl (by kernel_rfl) ?_
      rw [hwd]
      clear hwd
      repeat (first | (refine Reg.look rfl rfl rfl (by go_simp; rfl) rfl ?_; go_simp) | (refine Reg.skip rfl rfl rfl ?_; go_simp))
      refine Reg.act rfl ?_
      go_wp2_with fail
      clear z0 z1 z2 z3 z4 z5 z6 z7 z8 z9 z10 z11 z12 z13 z14 z15
      refine HOW.out.mono ?_
      rintro e w4 ⟨A5, c5, B5, d5, rfl, g1, g2, hk4⟩
      have HA := Lib.hid (HAP.out A5 B5 c5 d5 w4 hk4 g1 g2)
      have m0 := (hk4.cell hltt (fun z => z)).trans l0
      have m1 := (hk4.cell hltt (fun z => z)).trans l1
      have m4 := (hk4.cell hltt (fun z => z)).trans l4
      have hlto := lt_of_cell hto
      have mto := (hk4.cell hlto (fun z => z)).trans hto
      clear g1 g2 hk4 l0 l1 l3 l4 hto hlto
      go_wp2_with fail
      (refine ⟨?anew, ?_⟩; case anew => ((repeat (refine Reg.anew_cons rfl rfl (fun _ => by go_simp) ?_)); exact Reg.anew_nil))
      repeat (first | (refine Reg.look rfl rfl rfl (by go_simp; rfl) rfl ?_; go_simp) | (refine Reg.skip rfl rfl rfl ?_; go_simp))
      refine Reg.act rfl ?_
      go_wp2_with fail
      refine HA.out.mono ?_
      rintro e w5 ⟨⟨v, rfl⟩, hn5⟩
      have HFIN : Hid (TNew w0 w5 t (againT at2 T)) := Lib.hid (by rw [HAG.out]; exact hn5)
      unfold doneV
      clear hn5 HA
      go_wp2_with fail
      (refine ⟨?anew, ?_⟩; case anew => ((repeat (refine Reg.anew_cons rfl rfl (fun _ => by go_simp) ?_)); exact Reg.anew_nil))
      repeat (first | (refine Reg.look rfl rfl rfl (by go_simp; rfl) rfl ?_; go_simp) | (refine Reg.skip rfl rfl rfl ?_; go_simp))
      (refine Reg.done ?_; simp only [Exit.then])
      go_wp2_with fail
      go_end0
      exact ⟨rfl, HFIN.out⟩
    · skip
      unfold sI at hto
      simp only [if_true] at hto
      go_enter Try.func11, Try.ntmps11
      go_wp2_with fail
      clear hwa hy y0 y1 y2 k3 k4
      refine Reg.wp_region_plan [⟨0, false, []⟩, ⟨1, false, []⟩, ⟨2, false, []⟩, ⟨3, false, []⟩, ⟨4, false, []⟩, ⟨5, false, []⟩, ⟨6, false, []⟩, ⟨7, false, []⟩, ⟨8, false, []⟩, ⟨9, false, []⟩, ⟨10, false, []⟩, ⟨11, false, []⟩, ⟨12, false, []⟩, ⟨13, false, []⟩, ⟨14, false, []⟩, ⟨15, false, []⟩, ⟨16, false, []⟩, ⟨17, false, []⟩, ⟨18, false, []⟩, ⟨19, true, [2, 3, 4, 6, 7, 8, 9, 10, 11]⟩, ⟨20, true, []⟩] rfl (by kernel_rfl) ?_
      rw [hwd]
      clear hwd
      repeat (first | (refine Reg.look rfl rfl rfl (by go_simp; rfl) rfl ?_; go_simp) | (refine Reg.skip rfl rfl rfl ?_; go_simp))
      refine Reg.act rfl ?_
      go_wp2_with fail
      clear z0 z1 z2 z3 z4 z5 z6 z7 z8 z9 z10 z11 z12 z13 z14 z15
      refine HOW.out.mono ?_
      rintro e w4 ⟨A5, c5, B5, d5, rfl, g1, g2, hk4⟩
      have HA := Lib.hid (HAP.out A5 B5 c5 d5 w4 hk4 g1 g2)
      have m0 := (hk4.cell hltt (fun z => z)).trans l0
      have m1 := (hk4.cell hltt (fun z => z)).trans l1
      have m4 := (hk4.cell hltt (fun z => z)).trans l4
      have hlto := lt_of_cell hto
      have mto := (hk4.cell hlto (fun z => z)).trans hto
      clear g1 g2 hk4 l0 l1 l3 l4 hto hlto
      go_wp2_with fail
      (refine ⟨?anew, ?_⟩; case anew => ((repeat (refine Reg.anew_cons rfl rfl (fun _ => by go_simp) ?_)); exact Reg.anew_nil))
      repeat (first | (refine Reg.look rfl rfl rfl (by go_simp; rfl) rfl ?_; go_simp) | (refine Reg.skip rfl rfl rfl ?_; go_simp))
      refine Reg.act rfl ?_
      go_wp2_with fail
      refine HA.out.mono ?_
      rintro e w5 ⟨⟨v, rfl⟩, hn5⟩
      have HFIN : Hid (TNew w0 w5 t (againT at2 T)) := Lib.hid (by rw [HAG.out]; exact hn5)
      unfold doneV
      clear hn5 HA
      go_wp2_with fail
      (refine ⟨?anew, ?_⟩; case anew => ((repeat (refine Reg.anew_cons rfl rfl (fun _ => by go_simp) ?_)); exact Reg.anew_nil))
      repeat (first | (refine Reg.look rfl rfl rfl (by go_simp; rfl) rfl ?_; go_simp) | (refine Reg.skip rfl rfl rfl ?_; go_simp))
      (refine Reg.done ?_; simp only [Exit.then])
      go_wp2_with fail
      go_end0
      exact ⟨rfl, HFIN.out⟩
end

section
open Go.RowKit Go.ChangeShapes Go.WideShapes Go.ChangeAt

theorem t_turn (w0 w : World) (t : Nat) (x : TurnL) (A : Option Addr) (c : Nat) (i : Nat) (T : TV) (h : TNew w0 w t T) (hok : TOk i T) (hi : i ≤ 900) (hnu : x.nums) (hh : Rp.str.slice.R w0 (fun k => k < w0.heap.size) [.slice A x.op.hashes.length c] x.op.hashes) (hsm : x.op.hashes.length ≤ 1000000) :
    Calls Try.prog 11 #[.pointer (some ⟨t, 0, none⟩), turnV x (.slice A x.op.hashes.length c)] w fun e w' => e = .returned (.tuple #[]) ∧ TNew w0 w' t (turnT x T) := by
  unfold turnT
  by_cases h1 : x.kind = 1
  · rw [if_pos h1]; exact t_turn1 w0 w t x A c i T h hok (by omega) h1
  · rw [if_neg h1]
    by_cases h2 : x.kind = 2
    · rw [if_pos h2]; exact t_turn2 w0 w t x A c i T h hok (by omega) h2 hnu hh hsm
    · rw [if_neg h2]
      by_cases h3 : x.kind = 3
      · rw [if_pos h3]; exact t_turn3 w0 w t x A c i T h hok hi h3
      · rw [if_neg h3]; exact t_turn0 w0 w t x A c i T h hok hi h1 h2 h3
end
end

section
open Go.RowKit Go.ChangeShapes Go.WideShapes Go.ChangeAt

theorem TIn.begins {n0 : Nat} {w : World} {t xf xt : Nat} {Ff Ft : Nat → Prop} {q r : Int} (hb : Blk w t 30 [.pointer (some ⟨xf, 0, none⟩), .pointer (some ⟨xt, 0, none⟩), .int .i64 0, .slice none 0 0, .slice none 0 0])
    (h0 : LAt w xf (newL q r) Ff) (h1 : LAt w xt (newL q r) Ft) (hap : ∀ k, Ff k → ¬ Ft k) (hft : ¬ Ff t) (hft2 : ¬ Ft t) (hfb : ∀ k, Ff k → n0 ≤ k) (hfb2 : ∀ k, Ft k → n0 ≤ k) (ht : n0 ≤ t) :
    TIn n0 w t (fun b => bif b then xt else xf) (fun b => bif b then Ft else Ff) (.slice none 0 0) (.slice none 0 0) No ⟨fun _ => newL q r, 0, []⟩ := by
  refine ⟨hb, fun b => ?_, Own.nil _ _ _ _ _, Own.nil _ _ _ _ _, hap, fun b => ?_, fun b k _ => ⟨fun h => h, by simp [Value.ownBlock], by simp [Value.ownBlock]⟩, ⟨fun h => h, by simp [Value.ownBlock], by simp [Value.ownBlock]⟩, fun k h => h.elim, fun k h => by simp [Value.ownBlock] at h, fun k h => h.elim, fun b k => ?_, ht⟩
  · cases b
    · exact h0
    · exact h1
  · cases b
    · exact hft
    · exact hft2
  · cases b
    · exact hfb k
    · exact hfb2 k
theorem turn_small {l : List TurnL} (h : Rp.turn.slice.μ l ≤ 1048576) : ∀ x ∈ l, x.op.hashes.length ≤ 1048575 := fun x hx => by
  have e : Rp.turn.slice.μ l = 1 + Rp.sumμ Rp.turn.μ l := rfl
  have h3 := sumμ_memL (f := Rp.turn.μ) hx
  have e2 : Rp.turn.μ x = Rp.opl.μ x.op := rfl
  have h4 := opl_μ x.op
  omega
def cmdO (o : OpL) : CmdL := ⟨0, 0, 0, o, 0, 0, [], 0⟩
theorem cmdO_small {o : OpL} (h : o.hashes.length ≤ 1048575) : ∀ c ∈ [cmdO o], SmallC 1048576 1048576 c := fun c hc => by
  rw [List.mem_singleton.1 hc]
  exact ⟨by show o.hashes.length ≤ _; omega, by show (0 : Nat) ≤ _; omega, fun o ho => absurd ho List.not_mem_nil⟩
theorem cmdO_nums {o : OpL} (h : o.nums) : (cmdO o).nums := by
  have z : I64 0 := rfl
  exact ⟨z, z, z, h, z, z, z⟩
end

section
open Go.RowKit Go.ChangeShapes Go.WideShapes Go.ChangeAt

theorem wpList_loadW {P : Program} {ops : Array Oper} {rest : List Oper} {o : Oper} {a : Act} {w w' : World} {Q : Exit → Act → World → Prop} (hw : Region.wanted o (yielded ops a.tmps) = true) (t : TypeId) (x : Operand) (ho : o.op = .load t x) (v u : Value) (he : a.eval x = v)
    (hr : (Instr.loadAt t v).run P w = .ok u w')
    (h : wpList P ops Q rest (a.put o.dst u) w') : wpList P ops Q (o :: rest) a w := by
  refine wpList_step fun K hK => ?_
  rw [if_pos hw]
  unfold Oper.wp execOp
  simp only [ho, he, Sem.run_bind, hr, Result.andThen_ok]
  exact hK _ _ h
theorem wpList_buildW {P : Program} {ops : Array Oper} {rest : List Oper} {o : Oper} {a : Act} {w w' : World} {Q : Exit → Act → World → Prop} (hw : Region.wanted o (yielded ops a.tmps) = true) (t : TypeId) (j : Nat) (x : Operand) (ho : o.op = .build t #[(j, x)]) (v u : Value) (he : a.eval x = v)
    (hr : (Instr.build t #[(j, v)]).run P w = .ok u w')
    (h : wpList P ops Q rest (a.put o.dst u) w') : wpList P ops Q (o :: rest) a w := by
  refine wpList_step fun K hK => ?_
  rw [if_pos hw]
  have e : (#[(j, x)] : Array (Nat × Operand)).map (fun (i, x) => (i, a.eval x)) = #[(j, v)] := by simp [he]
  unfold Oper.wp execOp
  simp only [ho, Sem.run_bind, e, hr, Result.andThen_ok]
  exact hK _ _ h
theorem run_build3 (w : World) (on oe ok os oc oq : Int) (onm : ByteArray) (osz : Int) (A : Option Addr) (n c : Nat) : (Instr.build 44 #[(3, .agg #[.int .i64 on, .int .i64 oe, .int .i64 ok, .int .i64 os, .int .i64 oc, .int .i64 oq, .string onm, .int .i64 osz, .slice A n c])]).run Try.prog w = .ok (.agg #[.int .i64 0, .int .i64 0, .int .i64 0, .int .i64 on, .int .i64 oe, .int .i64 ok, .int .i64 os, .int .i64 oc, .int .i64 oq, .string onm, .int .i64 osz, .slice A n c, .int .i64 0, .int .i64 0, .slice none 0 0, .int .i64 0]) w := by go_simp
set_option maxRecDepth 100000 in
set_option maxHeartbeats 40000000 in
theorem a_two (turns : List TurnL) (As : Option Addr) (cas : Nat) (W : World) (SW : Nat → Prop) (h0 : Rp.turn.slice.R W SW [.slice As turns.length cas] turns) (hSW : ∀ k, SW k → k < W.heap.size) (hsm : ∀ x ∈ turns, x.op.hashes.length ≤ 1048575) (hn200 : (turns.length : Int) ≤ 200) :
    Calls Try.prog 35 #[.slice As turns.length cas] W fun e w' => (e = .returned (.pointer none) ∨ ∃ t, e = .returned (.pointer (some ⟨t, 0, none⟩)) ∧ TNew W w' t (runT turns)) ∧ Kp No W w' := by
  have hll : (turns.length : Int) ≤ 9223372036854775807 := by omega
  have HTU := Lib.hid (Rp.turn.slice.more h0 hSW)
  have HSM := Lib.hid hsm
  clear h0 hsm hSW
  obtain ⟨t, ht⟩ : ∃ v, W.heap.size = v := ⟨_, rfl⟩
  obtain ⟨wa, hwa⟩ : ∃ v, W.alloc (.cells #[.pointer none, .pointer none, .int .i64 0, .slice none 0 0, .slice none 0 0] 30) = v := ⟨_, rfl⟩
  have HKA : Hid (Kp No W wa) := Lib.hid (by rw [← hwa]; exact (Kp.refl _ _).alloc _)
  have HBA : Hid (Blk wa t 30 [.pointer none, .pointer none, .int .i64 0, .slice none 0 0, .slice none 0 0]) := Lib.hid (by rw [← hwa, ← ht]; exact Blk.new W _ _)
  have HTW : Hid (W.heap.size ≤ t) := Lib.hid (Nat.le_of_eq ht)
  go_enter Try.func35, Try.ntmps35
  go_wp2_with fail
  clear hwa ht
  go_loopw [12] (fun iv wr => (iv = .int .i64 0 ∧ wr = wa) ∨ (∃ xf Ff, iv = .int .i64 1 ∧ Hid (Blk wr t 30 [.pointer (some ⟨xf, 0, none⟩), .pointer none, .int .i64 0, .slice none 0 0, .slice none 0 0]) ∧ Hid (LAt wr xf (newL 65536 64) Ff) ∧ Hid (¬ Ff t) ∧ Hid (∀ k, Ff k → W.heap.size ≤ k) ∧ Hid (Kp No W wr)) ∨
    (iv = .int .i64 2 ∧ Hid (TNew W wr t ⟨fun _ => newL 65536 64, 0, []⟩))) (fun iv _ => 2 - (intOf iv).toNat)
  case atStart => exact .inl ⟨rfl, rfl⟩
  case round =>
    rename_i yQ yh yK yH
    rcases hrel with ⟨rfl, rfl⟩ | ⟨xf, Ff, rfl, HB, HL, HFT, HFB, HKR⟩ | ⟨rfl, HTN0⟩
    · revert yQ
      as_aux_lemma =>
        intros
        obtain ⟨wd, hwd⟩ : ∃ v, wr.drew = v := ⟨_, rfl⟩
        have hkd : Kp No wr wd := by rw [← hwd]; exact (Kp.refl _ _).drew
        have HKD := Lib.hid (HKA.out.trans' hkd)
        have HBD := Lib.hid (HBA.out.kept hkd (fun z => z))
        have hnw := a_new 65536 64 wd (by decide)
        have HNW := Lib.hid hnw
        clear hkd hnw
        go_wp2_with fail
        refine Reg.wp_region_plan [⟨0, false, []⟩, ⟨1, false, []⟩, ⟨6, false, []⟩, ⟨7, false, []⟩, ⟨2, true, [6, 7]⟩, ⟨3, false, []⟩, ⟨4, false, []⟩, ⟨5, false, []⟩, ⟨8, false, []⟩, ⟨9, true, [5]⟩] rfl (by kernel_rfl) ?_
        rw [hwd]
        clear hwd
        repeat (first | (refine Reg.look rfl rfl rfl (by go_simp; rfl) rfl ?_; go_simp) | (refine Reg.skip rfl rfl rfl ?_; go_simp))
        refine Reg.act rfl ?_
        go_wp2_with fail
        refine HNW.out.mono ?_
        rintro e w2 ⟨l, F, rfl, hl, hF, hk2⟩
        have HB2 := Lib.hid (HBD.out.kept hk2 (fun z => z))
        have HK2 := Lib.hid (HKD.out.trans' hk2)
        have HFT : Hid (¬ F t) := Lib.hid (fun he => by have h1 := hF t he; have h2 := Blk.lt HBD.out; omega)
        have HFB : Hid (∀ k, F k → W.heap.size ≤ k) := Lib.hid (fun k hk => Nat.le_trans HKD.out.size (hF k hk))
        have HL := Lib.hid hl
        have z0 : w2.cell? ⟨t, 0, none⟩ = some _ := Blk.cell HB2.out rfl
        have g0 := Blk.fr HB2.out 0
        have hks : Kp (· = t) w2 (w2.setCell ⟨t, 0, none⟩ (.pointer (some ⟨l, 0, none⟩))) := (Kp.refl (· = t) w2).setCell (p := ⟨t, 0, none⟩) (fun _ => rfl) _
        have HKS := Lib.hid (HK2.out.trans hks (fun i hi he => by have := HTW.out; omega))
        have HBS := Lib.hid (Blk.set HB2.out 0 (.pointer (some ⟨l, 0, none⟩)))
        have HLS := Lib.hid (HL.out.kept hks (fun k hk he => HFT.out (he ▸ hk)))
        clear hl hF hk2 hks HNW
        go_wp2_with fail
        (refine ⟨?anew, ?_⟩; case anew => ((repeat (refine Reg.anew_cons rfl rfl (fun _ => by go_simp) ?_)); exact Reg.anew_nil))
        repeat (first | (refine Reg.look rfl rfl rfl (by go_simp; rfl) rfl ?_; go_simp) | (refine Reg.skip rfl rfl rfl ?_; go_simp))
        refine Reg.act rfl ?_
        go_wp2_with fail
        (refine ⟨?anew, ?_⟩; case anew => ((repeat (refine Reg.anew_cons rfl rfl (fun _ => by go_simp) ?_)); exact Reg.anew_nil))
        repeat (first | (refine Reg.look rfl rfl rfl (by go_simp; rfl) rfl ?_; go_simp) | (refine Reg.skip rfl rfl rfl ?_; go_simp))
        (refine Reg.done ?_; simp only [Exit.then])
        go_wp2_with fail
        go_roundw
        case rel => exact .inr (.inl ⟨l, F, by go_num, HBS, HLS, HFT, HFB, HKS⟩)
        case measure => simp [intOf]
    · revert yQ
      as_aux_lemma =>
        intros
        obtain ⟨wd, hwd⟩ : ∃ v, wr.drew = v := ⟨_, rfl⟩
        have hkd : Kp No wr wd := by rw [← hwd]; exact (Kp.refl _ _).drew
        have HKD := Lib.hid (HKR.out.trans' hkd)
        have HBD := Lib.hid (HB.out.kept hkd (fun z => z))
        have HLD := Lib.hid (HL.out.keptNo hkd)
        have hnw := a_new 65536 64 wd (by decide)
        have HNW := Lib.hid hnw
        clear hkd hnw
        go_wp2_with fail
        refine Reg.wp_region_plan [⟨0, false, []⟩, ⟨1, false, []⟩, ⟨6, false, []⟩, ⟨7, false, []⟩, ⟨2, true, [6, 7]⟩, ⟨3, false, []⟩, ⟨4, false, []⟩, ⟨5, false, []⟩, ⟨8, false, []⟩, ⟨9, true, [5]⟩] rfl (by kernel_rfl) ?_
        rw [hwd]
        clear hwd
        repeat (first | (refine Reg.look rfl rfl rfl (by go_simp; rfl) rfl ?_; go_simp) | (refine Reg.skip rfl rfl rfl ?_; go_simp))
        refine Reg.act rfl ?_
        go_wp2_with fail
        refine HNW.out.mono ?_
        rintro e w2 ⟨l, F, rfl, hl, hF, hk2⟩
        have HB2 := Lib.hid (HBD.out.kept hk2 (fun z => z))
        have HL2 := Lib.hid (HLD.out.keptNo hk2)
        have HK2 := Lib.hid (HKD.out.trans' hk2)
        have HFT2 : Hid (¬ F t) := Lib.hid (fun he => by have h1 := hF t he; have h2 := Blk.lt HBD.out; omega)
        have HFB2 : Hid (∀ k, F k → W.heap.size ≤ k) := Lib.hid (fun k hk => Nat.le_trans HKD.out.size (hF k hk))
        have HAP : Hid (∀ k, Ff k → ¬ F k) := Lib.hid (fun k h1 h2 => by have h3 := HLD.out.lt k h1; have h4 := hF k h2; omega)
        have HLN := Lib.hid hl
        have z1 : w2.cell? ⟨t, 1, none⟩ = some _ := Blk.cell HB2.out rfl
        have g1 := Blk.fr HB2.out 1
        have hks : Kp (· = t) w2 (w2.setCell ⟨t, 1, none⟩ (.pointer (some ⟨l, 0, none⟩))) := (Kp.refl (· = t) w2).setCell (p := ⟨t, 1, none⟩) (fun _ => rfl) _
        have HFIN : Hid (TNew W (w2.setCell ⟨t, 1, none⟩ (.pointer (some ⟨l, 0, none⟩))) t ⟨fun _ => newL 65536 64, 0, []⟩) := Lib.hid ⟨HK2.out.trans hks (fun i hi he => by have := HTW.out; omega), _, _, _, _, _, TIn.begins (Blk.set HB2.out 1 (.pointer (some ⟨l, 0, none⟩))) (HL2.out.kept hks (fun k hk he => HFT.out (he ▸ hk))) (HLN.out.kept hks (fun k hk he => HFT2.out (he ▸ hk))) HAP.out HFT.out HFT2.out HFB.out HFB2.out HTW.out⟩
        clear hl hF hk2 hks HNW
        go_wp2_with fail
        (refine ⟨?anew, ?_⟩; case anew => ((repeat (refine Reg.anew_cons rfl rfl (fun _ => by go_simp) ?_)); exact Reg.anew_nil))
        repeat (first | (refine Reg.look rfl rfl rfl (by go_simp; rfl) rfl ?_; go_simp) | (refine Reg.skip rfl rfl rfl ?_; go_simp))
        refine Reg.act rfl ?_
        go_wp2_with fail
        (refine ⟨?anew, ?_⟩; case anew => ((repeat (refine Reg.anew_cons rfl rfl (fun _ => by go_simp) ?_)); exact Reg.anew_nil))
        repeat (first | (refine Reg.look rfl rfl rfl (by go_simp; rfl) rfl ?_; go_simp) | (refine Reg.skip rfl rfl rfl ?_; go_simp))
        (refine Reg.done ?_; simp only [Exit.then])
        go_wp2_with fail
        go_roundw
        case rel => exact .inr (.inr ⟨by go_num, HFIN⟩)
        case measure => simp [intOf]
    have HOK0 := Lib.hid (TOk.begins 65536 64 (by decide))
    have HIV0 : Hid ((⟨fun _ => newL 65536 64, 0, []⟩ : TV) = runT (turns.take 0)) := Lib.hid rfl
    go_wp2_with fail
    go_loopw [27] (fun iv wr => ∃ (i : Nat) (T : TV), i ≤ turns.length ∧ iv = .int .i64 (i : Int) ∧ Hid (TNew W wr t T) ∧ Hid (TOk i T) ∧ Hid (T = runT (turns.take i))) (fun iv _ => turns.length - (intOf iv).toNat)
    case atStart => exact ⟨0, _, Nat.zero_le _, rfl, HTN0, HOK0, HIV0⟩
    case round =>
      clear HTN0 HOK0 HIV0 HBA HKA
      obtain ⟨i, T, hi, rfl, HTN, HOK, HIV⟩ := hrel
      by_cases hlt : i < turns.length
      · revert yQ
        as_aux_lemma =>
          intros
          have hli : (i : Int) < (turns.length : Int) := by omega
          obtain ⟨x, hoi⟩ : ∃ o, turns[i]? = some o := ⟨_, List.getElem?_eq_getElem hlt⟩
          have hxs := HSM.out x (List.mem_of_getElem? hoi)
          obtain ⟨ad, A', c', rfl, hb, hcell0, hxn, hxh⟩ := Rp.at_turn HTU.out hoi
          have hcell : ∀ (j : Nat) u, (x.cells (.slice A' x.op.hashes.length c'))[j]? = some u → wr.cell? ((ad.add (i * 13)).add j) = some u := fun j u hu => (HTN.out.1.cell (p := (ad.add (i * 13)).add j) (show ((ad.add (i * 13)).add j).block < W.heap.size from (by rw [block_add, block_add]; exact hb)) (fun z => z)).trans (hcell0 j u hu)
          obtain ⟨z0, z1, z2, z3, z4, z5, z6, z7, z8, z9, z10, z11, z12⟩ := turn_cells hcell
          have hok2 := turn_ok HOK.out x
          have hiv2 : turnT x T = runT (turns.take (i + 1)) := by rw [run_take hoi, ← HIV.out]
          have htu : ∀ w, TNew W w t T → x.op.hashes.length ≤ 1000000 → Calls Try.prog 11 #[.pointer (some ⟨t, 0, none⟩), turnV x (.slice A' x.op.hashes.length c')] w fun e w' => e = .returned (.tuple #[]) ∧ TNew W w' t (turnT x T) :=
            fun w hn hs => t_turn W w t x A' c' i T hn HOK.out (by omega) hxn hxh hs
          obtain ⟨T2, hT2⟩ : ∃ v, turnT x T = v := ⟨_, rfl⟩
          obtain ⟨wb, hwb⟩ : ∃ v, wr.alloc (.cells (turnC x (.slice A' x.op.hashes.length c')).toArray 40) = v := ⟨_, rfl⟩
          obtain ⟨y, hy⟩ : ∃ v, wr.heap.size = v := ⟨_, rfl⟩
          have hkb : Kp No wr wb := by rw [← hwb]; exact (Kp.refl _ _).alloc _
          have hbb : Blk wb y 40 (turnC x (.slice A' x.op.hashes.length c')) := by rw [← hwb, ← hy]; exact Blk.new wr _ _
          have hli := run_lit_cmd wb (cmdO x.op) (.slice A' x.op.hashes.length c') (.slice none 0 0)
          have hgc : Calls Try.prog 10 #[.slice (some ⟨wb.heap.size, 0, none⟩) 1 1] (wb.alloc (.cells (cmdC (cmdO x.op) (.slice A' x.op.hashes.length c') (.slice none 0 0)).toArray 44)) fun e w' => GreatS [cmdO x.op] e ∧ Kp No (wb.alloc (.cells (cmdC (cmdO x.op) (.slice A' x.op.hashes.length c') (.slice none 0 0)).toArray 44)) w' :=
            h_great12S [cmdO x.op] (some ⟨wb.heap.size, 0, none⟩) 1 _ _ (Own.oneC wb (cmdO x.op) _ _ _ (cmdO_nums hxn.2.2.2.2) (Rp.str.slice.keptNo hxh (HTN.out.1.trans' hkb)) (Rp.none_ _ _ _) rfl rfl).readFrom (cmdO_small hxs)
          have hgs : ∀ e, GreatS [cmdO x.op] e → ∃ b, e = .returned (.bool b) ∧ (b = false → x.op.hashes.length ≤ 1000000) := by
            rintro e ⟨b, rfl, h⟩
            refine ⟨b, rfl, fun hb => ?_⟩
            have h1 := (h hb).2 (cmdO x.op) (List.mem_singleton.2 rfl)
            have h2 := h1.1
            have h3 : (cmdO x.op).op.hashes.length = x.op.hashes.length := rfl
            rw [h3] at h2
            omega
          obtain ⟨G, hG⟩ : ∃ G, GreatS [cmdO x.op] = G := ⟨_, rfl⟩
          rw [hG] at hgc hgs
          rw [hT2] at hok2 hiv2 htu
          have HTB := Lib.hid (HTN.out.keptNo hkb)
          unfold turnV turnC at htu
          unfold turnC at hwb hbb
          obtain ⟨wc, hwc⟩ : ∃ v, wb.alloc (.cells (cmdC (cmdO x.op) (.slice A' x.op.hashes.length c') (.slice none 0 0)).toArray 44) = v := ⟨_, rfl⟩
          have HKC : Hid (Kp No wb wc) := Lib.hid (by rw [← hwc]; exact (Kp.refl _ _).alloc _)
          obtain ⟨g, hg⟩ : ∃ v, wb.heap.size = v := ⟨_, rfl⟩
          rw [hwc, hg] at hgc hli
          unfold cmdV cmdO at hli
          have HGS := Lib.hid hgs
          have HOK2 := Lib.hid hok2
          have HIV2 := Lib.hid hiv2
          have HTT := Lib.hid htu
          have HGC := Lib.hid hgc
          have HBB := Lib.hid hbb
          have HLI := Lib.hid hli
          clear hcell hcell0 hxn hxh hok2 hiv2 htu hT2 hli hgc hgs hG hwc hg hkb hbb hoi hxs HTN HOK HIV
          obtain ⟨kd, st, at2, sm, ⟨on, oe, ok, os, oc, oq, onm, osz, ohs⟩⟩ := x
          simp only at *
          obtain ⟨hn, hhn⟩ : ∃ k, ohs.length = k := ⟨_, rfl⟩
          rw [hhn] at hwb HTT HBB HLI HGS z12
          clear hhn
          go_upto_region 12 with fail
          clear z0 z1 z2 z3 z4 z5 z6 z7 z8 z9 z10 z11 z12 hwb hy
          have y4 : wb.cell? ⟨y, 4, none⟩ = some _ := Blk.cell HBB.out rfl
          have y5 : wb.cell? ⟨y, 5, none⟩ = some _ := Blk.cell HBB.out rfl
          have y6 : wb.cell? ⟨y, 6, none⟩ = some _ := Blk.cell HBB.out rfl
          have y7 : wb.cell? ⟨y, 7, none⟩ = some _ := Blk.cell HBB.out rfl
          have y8 : wb.cell? ⟨y, 8, none⟩ = some _ := Blk.cell HBB.out rfl
          have y9 : wb.cell? ⟨y, 9, none⟩ = some _ := Blk.cell HBB.out rfl
          have y10 : wb.cell? ⟨y, 10, none⟩ = some _ := Blk.cell HBB.out rfl
          have y11 : wb.cell? ⟨y, 11, none⟩ = some _ := Blk.cell HBB.out rfl
          have y12 : wb.cell? ⟨y, 12, none⟩ = some _ := Blk.cell HBB.out rfl
          have hld : (Instr.loadAt 38 (.pointer (some ⟨y, 4, none⟩))).run Try.prog wb = .ok (.agg #[.int .i64 on, .int .i64 oe, .int .i64 ok, .int .i64 os, .int .i64 oc, .int .i64 oq, .string onm, .int .i64 osz, .slice A' hn c']) wb := by go_simp
          clear y4 y5 y6 y7 y8 y9 y10 y11 y12
          have HLD := Lib.hid hld
          have HBU := Lib.hid (run_build3 wb on oe ok os oc oq onm osz A' hn c')
          clear hld
          go_wp2_with (first | (refine wpList_loadW (by first | rfl | go_simp) 38 _ rfl _ _ (by go_simp) HLD.out ?_; go_simp) | (refine wpList_buildW (by first | rfl | go_simp) 44 3 _ rfl _ _ (by go_simp) HBU.out ?_; go_simp) | (refine wpList_litW (by first | rfl | go_simp) 27 _ rfl _ _ (by go_simp) HLI.out ?_; go_simp))
          clear HLD HBU HLI
          refine HGC.out.mono ?_
          rintro e w4 ⟨hge, hk4⟩
          obtain ⟨b, rfl, hsc⟩ := HGS.out e hge
          have HSC := Lib.hid hsc
          have hkb4 := HKC.out.trans' hk4
          have HTN4 := Lib.hid (HTB.out.keptNo hkb4)
          have HB4 := Lib.hid (HBB.out.kept hkb4 (fun z => z))
          clear hk4 hkb4 hsc hge HGC HTB HBB HGS
          cases b
          case true =>
            clear HSC
            go_wp2_with fail
            go_ret
            exact ⟨.inl rfl, HTN4.out.1⟩
          have HTT2 := Lib.hid (HTT.out w4 HTN4.out (HSC.out rfl))
          have y0 : w4.cell? ⟨y, 0, none⟩ = some _ := Blk.cell HB4.out rfl
          have y1 : w4.cell? ⟨y, 1, none⟩ = some _ := Blk.cell HB4.out rfl
          have y2 : w4.cell? ⟨y, 2, none⟩ = some _ := Blk.cell HB4.out rfl
          have y3 : w4.cell? ⟨y, 3, none⟩ = some _ := Blk.cell HB4.out rfl
          have y4 : w4.cell? ⟨y, 4, none⟩ = some _ := Blk.cell HB4.out rfl
          have y5 : w4.cell? ⟨y, 5, none⟩ = some _ := Blk.cell HB4.out rfl
          have y6 : w4.cell? ⟨y, 6, none⟩ = some _ := Blk.cell HB4.out rfl
          have y7 : w4.cell? ⟨y, 7, none⟩ = some _ := Blk.cell HB4.out rfl
          have y8 : w4.cell? ⟨y, 8, none⟩ = some _ := Blk.cell HB4.out rfl
          have y9 : w4.cell? ⟨y, 9, none⟩ = some _ := Blk.cell HB4.out rfl
          have y10 : w4.cell? ⟨y, 10, none⟩ = some _ := Blk.cell HB4.out rfl
          have y11 : w4.cell? ⟨y, 11, none⟩ = some _ := Blk.cell HB4.out rfl
          have y12 : w4.cell? ⟨y, 12, none⟩ = some _ := Blk.cell HB4.out rfl
          clear HSC HTT HTN4
          go_wp2_with fail
          clear y0 y1 y2 y3 y4 y5 y6 y7 y8 y9 y10 y11 y12 HB4
          refine HTT2.out.mono ?_
          rintro e w5 ⟨rfl, htn5⟩
          have HTN5 := Lib.hid htn5
          clear htn5 HTT2
          go_wp2_with fail
          go_roundw
          case rel => exact ⟨i + 1, T2, by omega, by go_num, HTN5, HOK2, HIV2⟩
          case measure => simp [intOf]; omega
      · obtain rfl : i = turns.length := by omega
        have HRT : Hid (TNew W wr t (runT turns)) := Lib.hid (by
          have h1 := HIV.out
          rw [List.take_length] at h1
          rw [← h1]; exact HTN.out)
        go_wp2_with fail
        go_ret
        exact ⟨.inr ⟨t, rfl, HRT.out⟩, HRT.out.1⟩
end

section
open Go.RowKit Go.ChangeShapes Go.WideShapes Go.ChangeAt

theorem results_ctS {P : Program} {fn : Func} {p u : Tmp} {ty : TypeId} (h : fn.results = #[.cell p ty, .tmp u]) (tmps : Array Value) (w : World) (g : Nat) (t : TypeId) (cs : Array Value) (fr : Nat × Nat) (d : TypeDesc)
    (hp : tmps.getD p undef = .pointer (some ⟨g, 0, none⟩)) (hg : w.heap[g]? = some (.cells cs t fr)) (hu : P.underlying ty = some d) (hd : (match d with | .struct _ | .array _ _ => true | _ => false) = true) (hi : (P.info? ty).map (·.size) = some cs.size) :
    (results fn tmps).run P w = .ok (.tuple #[.agg cs, tmps.getD u undef]) w := by
  rw [results_cell_tmp h, hp]
  simp [asAddr, run_loadVar_row w g t ty cs fr d hg hu hd hi, Result.andThen]
def sheetOf (nm : ByteArray) (L : LV) : Int × List ByteArray := (mget nm L.fold.live).getD (0, [])
theorem sht_look {w : World} {S : Nat → Prop} {b : Nat} {V : Sheets} (h : MapRp Rp.sht w S b Value.string V) (nm : ByteArray) : ∃ (R : Int × List ByteArray) (A : Option Addr) (n c : Nat) (B : Bool),
    (∀ w', Kp No w w' → (Instr.lookup 100 (.map (some b)) (.string nm) true).run Try.prog w' = .ok (.tuple #[.agg #[.int .i64 R.1, .slice A n c], .bool B]) w') ∧ n = R.2.length ∧ Rp.str.slice.R w S [.slice A n c] R.2 ∧ R = (mget nm V).getD (0, []) ∧ B = (mget nm V).isSome := by
  obtain ⟨u, B, h3, h4⟩ := h.look_all (P := Try.prog) key_name Try.underlying100 nm zero_sht
  rcases h4 with ⟨rfl, a, cs, h5, rfl, v, rfl, _, h6⟩ | ⟨rfl, h5, rfl⟩
  · obtain ⟨Av, cv, hv', _⟩ := id h6
    simp only [List.cons.injEq, and_true] at hv'
    subst hv'
    exact ⟨a, Av, _, cv, true, h3, rfl, h6, by rw [h5]; rfl, by rw [h5]; rfl⟩
  · exact ⟨(0, []), none, 0, 0, false, h3, rfl, ⟨none, 0, rfl, Nat.le_refl _, by simp, fun h => absurd h (by simp)⟩, by rw [h5]; rfl, by rw [h5]; rfl⟩
set_option maxRecDepth 100000 in
set_option maxHeartbeats 4000000 in
theorem a_sheet (nm : ByteArray) (l : Nat) (L : LV) (F : Nat → Prop) (w : World) (h : LAt w l L F) (hlen : (sheetOf nm L).2.length ≤ 1000000) :
    Calls Try.prog 38 #[.pointer (some ⟨l, 0, none⟩), .string nm] w fun e w' => ∃ A c, e = .returned (.tuple #[.agg #[.int .i64 (sheetOf nm L).1, .slice A (sheetOf nm L).2.length c], .bool (mget nm L.fold.live).isSome]) ∧ Rp.str.slice.R w' (fun k => w.heap.size ≤ k) [.slice A (sheetOf nm L).2.length c] (sheetOf nm L).2 ∧ Kp No w w' := by
  obtain ⟨b1, b2, ov, lv, S, hin, _⟩ := h
  obtain ⟨x, hx⟩ : ∃ x, w.heap.size = x := ⟨_, rfl⟩
  obtain ⟨wa, hwa⟩ : ∃ wa, w.alloc (.cells #[.int .i64 0, .slice none 0 0] 36) = wa := ⟨_, rfl⟩
  have hk : Kp No w wa := by rw [← hwa]; exact (Kp.refl _ _).alloc _
  have hb : Blk wa x 36 [.int .i64 0, .slice none 0 0] := by rw [← hwa, ← hx]; exact Blk.new w _ _
  have k0 : wa.cell? ⟨l, 0, none⟩ = some (.map (some b1)) := Blk.cell (hin.fat.blk.kept hk (fun z => z)) rfl
  obtain ⟨R, A, n, c, B, hlk, hn, hrd, hR, hB⟩ := sht_look (hin.fat.live.kept hk (fun z => z) (fun _ _ _ z => z)) nm
  have hl := hlk wa (Kp.refl _ _)
  unfold sheetOf at hlen ⊢
  rw [← hR] at hlen ⊢
  rw [← hB]
  subst hn
  obtain ⟨y, hy⟩ : ∃ v, wa.heap.size = v := ⟨_, rfl⟩
  obtain ⟨wb, hwb⟩ : ∃ v, wa.alloc (.cells #[.int .i64 R.1, .slice A R.2.length c] 36) = v := ⟨_, rfl⟩
  have hkb : Kp No wa wb := by rw [← hwb]; exact (Kp.refl _ _).alloc _
  have hby : Blk wb y 36 [.int .i64 R.1, .slice A R.2.length c] := by rw [← hwb, ← hy]; exact Blk.new wa _ _
  have HCL := Lib.hid (c_cloneS R.2 A c wb _ (Rp.str.slice.keptNo hrd hkb) hlen)
  have HBX := Lib.hid (hb.kept hkb (fun z => z))
  have HBY := Lib.hid hby
  have HK := Lib.hid (hk.trans' hkb)
  have HX := Lib.hid hx
  have hxy : x < y := by have := Blk.lt hb; omega
  have HXY := Lib.hid hxy
  have y1 : wb.cell? ⟨y, 1, none⟩ = some _ := Blk.cell hby rfl
  clear hin hk hb hlk hrd hR hB hkb hby hlen hxy
  go_enter Try.func38, Try.ntmps38
  go_wp2_with fail
  clear k0 hl hwa hwb hx hy
  refine HCL.out.mono ?_
  rintro e w3 ⟨A3, c3, rfl, hown, hk3⟩
  have hb3 := HBY.out.kept hk3 (fun z => z)
  have hx3 := HBX.out.kept hk3 (fun z => z)
  have g1 := Blk.fr hb3 1
  have u1 : w3.cell? ⟨y, 1, none⟩ = some _ := Blk.cell hb3 rfl
  have hb4 : Blk (w3.setCell ⟨y, 1, none⟩ (.slice A3 R.2.length c3)) y 36 [.int .i64 R.1, .slice A3 R.2.length c3] := Blk.set hb3 1 _
  have hk4 : Kp (· = y) w3 (w3.setCell ⟨y, 1, none⟩ (.slice A3 R.2.length c3)) := (Kp.refl (· = y) w3).setCell (p := ⟨y, 1, none⟩) (fun _ => rfl) _
  have hx4 := hx3.kept hk4 (show x ≠ y from by have := HXY.out; omega)
  have hr3 := hown.readFrom
  have hyb : y < wb.heap.size := Blk.lt HBY.out
  have hr4 := Rp.str.slice.kept hr3 hk4 (fun k hk _ e => by rcases hk with hk | hk; exact hk; omega)
  have HR4 := Lib.hid hr4
  have HB4 := Lib.hid hb4
  have HX4 := Lib.hid hx4
  have HK4 : Hid (Kp No w (w3.setCell ⟨y, 1, none⟩ (.slice A3 R.2.length c3))) := Lib.hid ((HK.out.trans' hk3).trans hk4 (fun k hk e => by have := HX.out; have := HXY.out; omega))
  obtain ⟨w4, hw4⟩ : ∃ v, w3.setCell ⟨y, 1, none⟩ (.slice A3 R.2.length c3) = v := ⟨_, rfl⟩
  rw [hw4] at HR4 HB4 HX4 HK4
  have v0 : w4.cell? ⟨y, 0, none⟩ = some _ := Blk.cell HB4.out rfl
  have v1 : w4.cell? ⟨y, 1, none⟩ = some _ := Blk.cell HB4.out rfl
  have t0 : w4.cell? ⟨x, 0, none⟩ = some _ := Blk.cell HX4.out rfl
  have t1 : w4.cell? ⟨x, 1, none⟩ = some _ := Blk.cell HX4.out rfl
  have g3 := Blk.fr HX4.out 0
  have g4 := Blk.fr HX4.out 1
  have HYB := Lib.hid hyb
  clear hown hk3 hb3 hx3 hb4 hk4 hx4 hr3 hr4 y1 HCL hyb
  go_wp2_with fail
  have hbf : Blk ((w4.setCell ⟨x, 0, none⟩ (.int .i64 R.1)).setCell ⟨x, 1, none⟩ (.slice A3 R.2.length c3)) x 36 [.int .i64 R.1, .slice A3 R.2.length c3] := Blk.set (Blk.set HX4.out 0 _) 1 _
  have hks : Kp (· = x) w4 ((w4.setCell ⟨x, 0, none⟩ (.int .i64 R.1)).setCell ⟨x, 1, none⟩ (.slice A3 R.2.length c3)) := ((Kp.refl (· = x) w4).setCell (p := ⟨x, 0, none⟩) (fun _ => rfl) _).setCell (p := ⟨x, 1, none⟩) (fun _ => rfl) _
  have hkf : Kp No w ((w4.setCell ⟨x, 0, none⟩ (.int .i64 R.1)).setCell ⟨x, 1, none⟩ (.slice A3 R.2.length c3)) := HK4.out.trans hks (fun i hi e => by have := HX.out; omega)
  exact bodyPost_ret (results_ctS rfl _ _ x _ _ _ _ rfl hbf Try.underlying36 rfl (by kernel_rfl)) rfl ⟨A3, c3, rfl, Rp.str.slice.more (Rp.str.slice.kept HR4.out hks (fun k hk _ e => by
    rcases hk with hk | hk
    · exact hk
    · have := HXY.out; have := HYB.out; omega)) (fun k hk => by
    rcases hk with hk | hk
    · exact hk.elim
    · have := HK.out.size; omega), hkf⟩
end

section
open Go.RowKit Go.ChangeShapes Go.WideShapes Go.ChangeAt

/-- The walk that gives ModelLedgerUpto. -/
def ModelLedgerUptoWalk : Prop := ∀ (W : World) (v0 : Value) (a0 : (List TurnL)), (Rp.slice Rp.turn).R W (fun k => k < W.heap.size) [v0] a0 → (Rp.slice Rp.turn).μ a0 ≤ 1048576 →
    Calls Try.prog 7 #[v0] W fun e w' => e = .returned (.bool true) ∧ Kp No W w'

set_option maxRecDepth 100000 in
theorem modelLedgerUpto_contract (walk : ModelLedgerUptoWalk) (H : Type) (enc : TypeId × Value → H) (W : World) (base : Nat) (args : Array Value) (ds gs : List (DataW H)) (before : List MemPlace)
    (hval : ∀ (j : Nat) t v, Try.f7.params[j]? = some t → args[j]? = some v → Value.okWide Try.prog W .any base t v)
    (hW : DataW.Whole enc Try.prog Try.f7.params.toList Rows.modelLedgerSpec.vars false W args.toList ds gs before) (hk : Rows.uptoSmall H (ds ++ gs) = true) :
    Calls Try.prog 7 args W fun e W' => ∃ v, e = .returned v ∧ Rows.modelLedgerSpec.post enc Try.prog Try.f7 false true false false W args v W' := by
  have hW' := hW
  obtain ⟨p, q, hA0, hV, rfl, hfz, hnd⟩ := hW
  have hA : DataW.TrodAll enc Try.prog W 0 (fun _ => true) true Try.f7.params.toList args.toList ds p := hA0
  rw [Try.params7] at hA hval
  obtain ⟨v0, vs0, d0, ds0, p0, q0, hargs, rfl, rfl, h0, r0⟩ := trodAll_cons hA
  obtain ⟨rfl, rfl, rfl⟩ := trodAll_nil r0
  obtain rfl : args = #[v0] := by cases args; simp_all
  obtain ⟨rfl, rfl⟩ := trodVars_none hV
  clear hA0
  have c0 : v0.cells.toList = [v0] := one_of_slice (okWide_slice Try.underlying22 (hval 0 22 v0 rfl rfl))
  obtain ⟨a0, e0, m0⟩ := Arg.one (Arg.slice Try.underlying22 (by kernel_rfl) (Arg.turn Try.underlying40 (by kernel_rfl) (by kernel_rfl) (by kernel_rfl) Try.underlying3 Try.underlying3 Try.underlying3 Try.underlying3 (Arg.opl Try.underlying38 (by kernel_rfl) (by kernel_rfl) (by kernel_rfl) Try.underlying3 Try.underlying3 Try.underlying3 Try.underlying3 Try.underlying3 Try.underlying3 Try.underlying9 (Arg.sht Try.underlying36 (by kernel_rfl) (by kernel_rfl) (by kernel_rfl) Try.underlying3 (Arg.slice Try.underlying34 (by kernel_rfl) (Arg.str Try.underlying9)))))) c0 h0
  have hbd := bound_of hk
  simp only [List.append_nil, Rows.uptoBulkAll] at hbd
  refine (walk W v0 a0 e0 (by omega)).mono fun e W' ⟨he, hb⟩ => ?_
  subst he
  refine ⟨_, rfl, post_of_law (tb := 4) (by kernel_rfl) ?_ (by kernel_rfl) Try.underlying4 rfl ?_ hW' hb⟩
  · rw [Try.params7]
    intro t ht
    simp only [List.mem_cons, List.not_mem_nil, or_false] at ht
    rcases ht with rfl <;> exact ⟨by kernel_rfl, by decide +kernel⟩
  · rw [Try.params7]
    intro l hl
    match l, hl with
    | [x0], _ => rfl

set_option maxRecDepth 100000 in
theorem modelLedgerUpto_lifted (walk : ModelLedgerUptoWalk) (os : Os) (started : os.Started) (H : Type) (enc : TypeId × Value → H) (F : Stop.Interp) :
    ReturnsInHanded {} Try.checked os 7 .any ((Rows.OpenSpec.upto Rows.modelLedgerSpec).pre6 enc Try.prog Try.f7 Rows.modelLedgerUptoRow.domain false) (((Rows.OpenSpec.upto Rows.modelLedgerSpec).at F).post enc Try.prog Try.f7 false true false false) := by
  refine returnsInHanded_of_cond (C := Try.checked) (s := (Rows.OpenSpec.upto Rows.modelLedgerSpec)) (k := Rows.uptoSmall) rfl (by kernel_rfl : ownKnob Try.prog.godebug = none) started (by kernel_rfl) Try.func7
    (OpenSpec.witness (enc := enc) (C := Try.checked) (s := (Rows.OpenSpec.upto Rows.modelLedgerSpec)) (k := Rows.uptoSmall) rfl false ⟨#[], #[.slice none 0 0], []⟩ 8 (by kernel_rfl) (by kernel_rfl) (by kernel_rfl)
      (x := ([.nil], [], [])) (by kernel_rfl) rfl (by kernel_rfl)) ?_
  intro W base args ds gs before hval hW _ hk _
  exact modelLedgerUpto_contract walk H enc W base args ds gs before hval hW hk
theorem modelLedgerUpto_of (walk : ModelLedgerUptoWalk) : Rows.ModelLedgerUptoSaid :=
  OpenClaim.holds_of_cond 7 Try.f7 rfl rfl rfl rfl rfl rfl rfl ⟨rfl, rfl, rfl, rfl, rfl⟩ rfl rfl rfl rfl rfl (by kernel_rfl) Try.func7 (by kernel_rfl)
    (of_decide_eq_true (by kernel_rfl)) (by unfold Func.isWrapper; first | (rw [if_pos (by decide +kernel)]; kernel_rfl) | (rw [if_neg (by decide +kernel)]; exact ⟨rfl, rfl⟩))
    (fun os started H enc _ F => modelLedgerUpto_lifted walk os started H enc F)
end

section
open Go.RowKit Go.ChangeShapes Go.WideShapes Go.ChangeAt

set_option maxRecDepth 100000 in
set_option maxHeartbeats 40000000 in
theorem modelLedgerUpto_walk : ModelLedgerUptoWalk := by
  intro W v0 turns h0 hμ
  obtain ⟨As, cas, hv0, hcap, hmx, hrt⟩ := id h0
  simp only [List.cons.injEq, and_true] at hv0
  subst hv0
  have HTU := Lib.hid h0
  have HSM := Lib.hid (turn_small hμ)
  have hll : (turns.length : Int) ≤ 9223372036854775807 := by unfold maxLen at hmx; omega
  have HCAP := Lib.hid hcap
  clear h0 hμ hcap hmx hrt
  go_enter Try.func7, Try.ntmps7
  go_wp2_with fail
  refine (h_awake26 W).mono ?_
  rintro e w1 ⟨rfl, hk1⟩
  have HK1 := Lib.hid hk1
  clear hk1
  by_cases h100 : (100 : Int) < (turns.length : Int)
  · go_wp2_with fail
    refine (h_awake26 w1).mono ?_
    rintro e wz ⟨rfl, hkz⟩
    have HKZ := Lib.hid (HK1.out.trans' hkz)
    clear hkz
    go_wp2_with fail
    go_ret
    exact ⟨rfl, HKZ.out⟩
  have hn100 : (turns.length : Int) ≤ 100 := by omega
  have hd100 : decide ((100 : Int) < (turns.length : Int)) = false := decide_eq_false h100
  go_wp2_with fail
  refine (m_new w1).mono ?_
  rintro e w2 ⟨m, F, rfl, hm, hf, hk2⟩
  have H0 : Hid (OneM W w2 m ⟨[], []⟩ F) := Lib.hid ⟨hm, fun k hk => Nat.le_trans HK1.out.size (hf k hk), OkM.new, HK1.out.trans' hk2⟩
  have HT0 : Hid (TreeI (runT (turns.take 0)) [] ⟨[], []⟩) := Lib.hid TreeI.begins
  clear hm hf hk2 h100 hd100 HK1
  go_wp2_with fail
  go_loopw [4] (fun nv wr => ∃ (n n0 : Nat) (rows : List (List OpL)) (M : MV) (F : Nat → Prop), nv = .int .i64 (n : Int) ∧ n0 ≤ n ∧ n0 ≤ turns.length ∧ n ≤ 300 ∧ Hid (OneM W wr m M F) ∧ Hid (TreeI (runT (turns.take n0)) rows M)) (fun nv _ => turns.length + 1 - (intOf nv).toNat)
  case atStart => exact ⟨0, 0, [], ⟨[], []⟩, F, rfl, Nat.le_refl _, Nat.zero_le _, by omega, H0, HT0⟩
  case round =>
    clear H0 HT0
    obtain ⟨n, n0, rows, M, F, rfl, hn0, hn1, hn2, H1, HT⟩ := hrel
    by_cases hle : (n : Int) ≤ (turns.length : Int)
    case neg =>
      have hgt : (turns.length : Int) < (n : Int) := by omega
      clear hle
      go_wp2_with fail
      go_ret
      exact ⟨rfl, H1.out.kp⟩
    case pos =>
      have hnl : n ≤ turns.length := by omega
      have hncap : n ≤ cas := Nat.le_trans hnl HCAP.out
      have hneg : decide ((n : Int) < 0) = false := decide_eq_false (by omega)
      have hlt : (turns.take n).length = n := by rw [List.length_take]; omega
      have HTN := Lib.hid (HT.out.later hn0 hnl)
      have h2 := fun w (hk : Kp No W w) => a_two (turns.take n) As cas w _ (Rp.head (Rp.turn.slice.keptNo HTU.out hk) hnl) (fun k hk2 => Nat.lt_of_lt_of_le hk2 hk.size) (fun x hx => HSM.out x (List.mem_of_mem_take hx)) (by rw [hlt]; omega)
      rw [hlt] at h2
      have H2 := Lib.hid h2
      clear h2 hlt hn0 hn1 HT
      go_wp2_with fail
      refine (H2.out wr H1.out.kp).mono ?_
      rintro e w3 ⟨hres, hk3⟩
      have H3 := Lib.hid (H1.out.keptNo hk3)
      have HK3 := Lib.hid hk3
      clear hk3 H2
      rcases hres with rfl | ⟨t, rfl, htn⟩
      · go_wp2_with fail
        go_ret
        exact ⟨rfl, H3.out.kp⟩
      obtain ⟨_, xs, FL, sv, tv, S, hin⟩ := htn
      have hTK := run_ok turns n hnl
      obtain ⟨T, hT⟩ : ∃ v, runT (turns.take n) = v := ⟨_, rfl⟩
      rw [hT] at hin hTK HTN
      have HTE := Lib.hid hT
      obtain ⟨wd, hwd⟩ : ∃ v, w3.drew = v := ⟨_, rfl⟩
      have hkd : Kp No w3 wd := by rw [← hwd]; exact (Kp.refl _ _).drew
      obtain ⟨g, hg⟩ : ∃ v, wd.heap.size = v := ⟨_, rfl⟩
      obtain ⟨w4, hw4⟩ : ∃ v, wd.alloc (.cells #[.pointer (some ⟨xs false, 0, none⟩), .pointer (some ⟨xs true, 0, none⟩)] 25) = v := ⟨_, rfl⟩
      have hk4 : Kp No wd w4 := by rw [← hw4]; exact (Kp.refl _ _).alloc _
      have HS : Hid (LawS W w4 m M F g xs T.l FL) := Lib.hid ⟨H3.out.keptNo (hkd.trans' hk4), fun b => (hin.led b).keptNo (hkd.trans' hk4), fun b k hk hf => by
        have h1 := hin.fb b k hk
        have h2 := H1.out.mat.lt hf
        omega, by rw [← hw4, ← hg]; exact Blk.new wd _ _, fun hf => by
        have h2 := H1.out.mat.lt hf
        have h3 := HK3.out.size
        have h4 := hkd.size
        omega⟩
      have k0 : wd.cell? ⟨t, 0, none⟩ = some _ := Blk.cell (hin.blk.kept hkd (fun z => z)) rfl
      have k1 : wd.cell? ⟨t, 1, none⟩ = some _ := Blk.cell (hin.blk.kept hkd (fun z => z)) rfl
      have HOK := Lib.hid hTK
      have HK0 : Hid (w4.cell? ⟨t, 0, none⟩ = some (.pointer (some ⟨xs false, 0, none⟩)) ∧ w4.cell? ⟨t, 1, none⟩ = some (.pointer (some ⟨xs true, 0, none⟩))) := Lib.hid ⟨Blk.cell (hin.blk.kept (hkd.trans' hk4) (fun z => z)) rfl, Blk.cell (hin.blk.kept (hkd.trans' hk4) (fun z => z)) rfl⟩
      obtain ⟨xa, hxa⟩ : ∃ v, xs false = v := ⟨_, rfl⟩
      obtain ⟨xb, hxb⟩ : ∃ v, xs true = v := ⟨_, rfl⟩
      rw [hxa] at k0 hw4 HK0
      rw [hxb] at k1 hw4 HK0
      clear hin hTK hkd hk4 hT hxa hxb
      go_wp2_with fail
      refine Reg.wp_region_plan [⟨0, false, []⟩, ⟨1, false, []⟩, ⟨2, false, []⟩, ⟨3, false, []⟩, ⟨4, false, []⟩, ⟨5, false, []⟩, ⟨6, false, []⟩, ⟨7, false, []⟩, ⟨10, false, []⟩, ⟨8, true, []⟩, ⟨9, false, []⟩] rfl (by kernel_rfl) ?_
      rw [hwd]
      clear hwd
      repeat (first | (refine Reg.look rfl rfl rfl (by go_simp; rfl) rfl ?_; go_simp) | (refine Reg.skip rfl rfl rfl ?_; go_simp))
      refine Reg.act rfl ?_
      go_wp2_with fail
      clear hw4 k0 k1
      have k0 := HK0.out.1
      have k1 := HK0.out.2
      (refine ⟨?anew, ?_⟩; case anew => ((repeat (refine Reg.anew_cons rfl rfl (fun _ => by go_simp) ?_)); exact Reg.anew_nil))
      repeat (first | (refine Reg.look rfl rfl rfl (by go_simp; rfl) rfl ?_; go_simp) | (refine Reg.skip rfl rfl rfl ?_; go_simp))
      (refine Reg.done ?_; simp only [Exit.then])
      clear k0 k1 HK0 H1 H3 HK3
      clear hg
      go_wp2_with fail
      go_loopw [51] (fun iv wr2 => ∃ (j : Nat) (rows : List (List OpL)) (M : MV) (F : Nat → Prop), j ≤ 2 ∧ iv = .int .i64 (j : Int) ∧ Hid (LawS W wr2 m M F g xs T.l FL) ∧ Hid (TreeI T rows M)) (fun iv _ => 2 - (intOf iv).toNat)
      case atStart => exact ⟨0, rows, M, F, by omega, rfl, HS, HTN⟩
      case round =>
        clear HS HTN
        obtain ⟨j, rows, M, F, hj, rfl, HS, HTN⟩ := hrel
        by_cases hjt : j < 2
        case neg =>
          obtain rfl : j = 2 := by omega
          have e2 : ((2 : Nat) : Int) = 2 := rfl
          rw [e2]
          clear hj hjt e2
          obtain ⟨d, hd⟩ : ∃ v : Nat, turns.length / 12 = v := ⟨_, rfl⟩
          have hdv : (turns.length : Int).tdiv 12 = (d : Int) := by rw [← hd]; exact (Int.ofNat_tdiv turns.length 12).symm
          have hdl : d ≤ 100 := by omega
          have HTT : Hid (TreeI (runT (turns.take n)) rows M) := Lib.hid (by rw [HTE.out]; exact HTN.out)
          clear hd
          go_wp2_with fail
          exact ⟨⟨n + (1 + d), n, rows, M, F, congrArg (Value.int _) (by omega), by omega, hnl, by omega, Lib.hid HS.out.one, HTT⟩, by simp [intOf]; omega⟩
        case pos =>
          have hji : (j : Int) < 2 := by omega
          obtain ⟨b, hb⟩ : ∃ b : Bool, j = (if b = true then 1 else 0) := by
            rcases (show j = 0 ∨ j = 1 by omega) with h | h
            · exact ⟨false, h⟩
            · exact ⟨true, h⟩
          have hcell := HS.out.cell b
          rw [← hb] at hcell
          go_upto_region 12 with fail
          go_cut [7] (fun pv wx => pv = .pointer (some ⟨xs b, 0, none⟩) ∧ wx = wr)
          case first =>
            cases b
            · obtain rfl : j = 0 := hb
              go_wp2_with fail
              go_meet
              exact ⟨rfl, rfl⟩
            · obtain rfl : j = 1 := hb
              go_wp2_with fail
              go_meet
              exact ⟨rfl, rfl⟩
          case rest =>
            obtain ⟨rfl, rfl⟩ := hcut
            obtain ⟨wr, rfl⟩ : ∃ v, v = wc := ⟨_, rfl⟩
            have HOL := Lib.hid (HOK.out.led b)
            have HLN : Hid ((T.l b).ops.length ≤ 80) := Lib.hid HOL.out.len
            clear hb hcell
            go_wp2_with fail
            refine (a_ops (xs b) (T.l b) (FL b) wr (HS.out.led b) (by have := HLN.out; omega) HOL.out.hashes).mono ?_
            rintro e w5 ⟨A5, c5, rfl, hown, hk5⟩
            have HS5 := Lib.hid (HS.out.keptNo hk5)
            have HR5 := Lib.hid hown.readFrom
            clear hown hk5
            go_wp2_with fail
            refine (m_see (T.l b).ops A5 c5 _ m M F w5 HS5.out.one.mat HS5.out.one.ok HR5.out (by have := HLN.out; omega) HOL.out.hashes).mono ?_
            rintro e w6 ⟨rfl, F6, hm6, hu6⟩
            have HT6 := Lib.hid (HTN.out.see HS5.out.one.ok b)
            have HS6 := Lib.hid (HS5.out.see hm6 hu6 (HS5.out.one.ok.see (by have := HLN.out; omega) HOL.out.hashes))
            rw [HT6.out.1]
            obtain ⟨M6, hM6⟩ : ∃ v, (seeL (T.l b).ops M).2 = v := ⟨_, rfl⟩
            rw [hM6] at HS6 HT6
            have HT7 := Lib.hid HT6.out.2
            have HPA := Lib.hid (HT7.out.path HS6.out.one.ok)
            have HPD : Hid (pathD M6 (lastL (T.l b)) = (T.l b).ops) := Lib.hid (by unfold pathD; rw [HPA.out]; rfl)
            clear hm6 hu6 hM6 HS5 HR5 HT6 HS HTN
            go_wp2_with fail
            refine (a_last (xs b) (T.l b) (FL b) w6 (HS6.out.led b) (by have := HLN.out; omega)).mono ?_
            rintro e w7 ⟨rfl, hk7⟩
            have HS7 := Lib.hid (HS6.out.keptNo hk7)
            have hnm := m_names (lastL (T.l b)) m M6 F6 w7 HS7.out.one.mat HS7.out.one.ok
            obtain ⟨hlv1, hlv2⟩ := live_ledger HOL.out
            have hnn : namesM M6 (lastL (T.l b)) = namesL (T.l b) := by unfold namesM; rw [HPD.out, hlv2]
            have hps : (pathM M6 (lastL (T.l b))).isSome = true := by rw [HPA.out]; rfl
            have han := fun w (h : LAt w (xs b) (T.l b) (FL b)) => a_names (80 * n) (xs b) (T.l b) (FL b) w h HOL.out
            obtain ⟨N, hN⟩ : ∃ v, namesL (T.l b) = v := ⟨_, rfl⟩
            rw [hnn, hN, hps] at hnm
            rw [hN] at han hlv2
            unfold spotV at hnm
            have HNM := Lib.hid hnm
            have HAN := Lib.hid han
            have HL1 := Lib.hid hlv1
            have HL2 := Lib.hid hlv2
            clear hk7 hnm hlv1 hlv2 hnn hps han hN HS6
            go_wp2_with fail
            refine HNM.out.mono ?_
            rintro e w8 ⟨A8, c8, rfl, hown8, hk8⟩
            have HS8 := Lib.hid (HS7.out.keptNo hk8)
            have HR8 := Lib.hid hown8.readFrom
            clear hown8 hk8 HNM HS7
            go_wp2_with fail
            refine (HAN.out w8 (HS8.out.led b)).mono ?_
            rintro e w9 ⟨A9, c9, rfl, hown9, hk9⟩
            have HS9 := Lib.hid (HS8.out.keptNo hk9)
            have HR9 := Lib.hid (Rp.str.slice.keptNo HR8.out hk9)
            have hsa := r_same N N A8 A9 c8 c9 w9 _ _ HR9.out hown9.readFrom
            rw [show decide (N = N) = true from decide_eq_true rfl] at hsa
            have HSA := Lib.hid hsa
            clear hown9 hk9 hsa HS8 HR8 HAN
            go_wp2_with fail
            refine HSA.out.mono ?_
            rintro e w10 ⟨rfl, q10, hq10⟩
            have hk10 : Kp No w9 w10 := by rw [hq10]; exact (Kp.refl _ _).drewN _
            have HS10 := Lib.hid (HS9.out.keptNo hk10)
            have HR10 := Lib.hid (Rp.str.slice.keptNo HR9.out hk10)
            have hNl : (N.length : Int) ≤ 9223372036854775807 := by obtain ⟨_, _, he, h1, h2, _⟩ := HR10.out; unfold maxLen at h2; omega
            clear hq10 hk10 HS9 HR9 HSA
            go_wp2_with fail
            go_loopw [78] (fun iv wr3 => ∃ i : Nat, i ≤ N.length ∧ iv = .int .i64 (i : Int) ∧ Hid (LawS W wr3 m M6 F6 g xs T.l FL) ∧ Hid (Kp No w10 wr3)) (fun iv _ => N.length - (intOf iv).toNat)
            case atStart => exact ⟨0, Nat.zero_le _, rfl, HS10, Lib.hid (Kp.refl _ _)⟩
            case round =>
              clear HS10
              obtain ⟨i, hi, rfl, HSI, HKI⟩ := hrel
              by_cases hit : i < N.length
              case neg =>
                obtain rfl : i = N.length := by omega
                clear hi hit
                go_wp2_with fail
                go_roundw
                case rel => exact ⟨j + 1, _, M6, F6, by omega, by go_num, HSI, HT7⟩
                case measure => simp [intOf]; omega
              case pos =>
                have hii : (i : Int) < (N.length : Int) := by omega
                obtain ⟨nm, hnm⟩ : ∃ q, N[i]? = some q := ⟨_, List.getElem?_eq_getElem hit⟩
                obtain ⟨ad, rfl, _, hc, _⟩ := Rp.at_str (Rp.str.slice.keptNo HR10.out HKI.out) hnm
                obtain ⟨o, ho⟩ : ∃ o, mget nm (liveL1 (T.l b).ops) = some o := by
                  have h1 : nm ∈ (liveL1 (T.l b).ops).map (·.1) := mem_sortedN.1 (HL2.out ▸ List.mem_of_getElem? hnm)
                  cases hq : mget nm (liveL1 (T.l b).ops) with
                  | some o => exact ⟨o, rfl⟩
                  | none => exact absurd h1 ((mget_none_iff _ _).1 hq)
                have hlo : mget nm (T.l b).fold.live = some (o.size, o.hashes) := by rw [HL1.out nm, ho]; rfl
                have hso : sheetOf nm (T.l b) = (o.size, o.hashes) := by unfold sheetOf; rw [hlo]; rfl
                have hmo : o ∈ (T.l b).ops := by
                  rcases live_mem (T.l b).ops [] List.nodup_nil nm o ho with h | h
                  · cases h
                  · exact h
                have hfo : findM M6 (lastL (T.l b)) nm = some o := by unfold findM; rw [HPD.out]; exact ho
                have hsh := a_sheet nm (xs b) (T.l b) (FL b) wr (HSI.out.led b) (by rw [hso]; exact HOL.out.hashes o hmo)
                rw [hso, hlo] at hsh
                simp only [Option.isSome_some] at hsh
                have hfi := fun w (hk : Kp No wr w) => m_find (lastL (T.l b)) nm m M6 F6 w (HSI.out.one.mat.keptNo hk) HSI.out.one.ok
                rw [hfo] at hfi
                simp only [Option.isSome_some, Option.getD_some] at hfi
                unfold spotV at hfi
                have HSH := Lib.hid hsh
                have HFI := Lib.hid hfi
                clear hsh hfi hlo hso hfo ho hmo hnm
                obtain ⟨on, oe, okd, os, oc, oq, onm, osz, ohs⟩ := o
                unfold opV at HFI
                simp only at HSH HFI
                go_wp2_with fail
                refine HSH.out.mono ?_
                rintro e w11 ⟨A11, c11, rfl, hr11, hk11⟩
                obtain ⟨y, hy⟩ : ∃ v, w11.heap.size = v := ⟨_, rfl⟩
                obtain ⟨w12, hw12⟩ : ∃ v, w11.alloc (.cells #[.int .i64 osz, .slice A11 ohs.length c11] 36) = v := ⟨_, rfl⟩
                have hk12 : Kp No w11 w12 := by rw [← hw12]; exact (Kp.refl _ _).alloc _
                have HBY : Hid (Blk w12 y 36 [.int .i64 osz, .slice A11 ohs.length c11]) := Lib.hid (by rw [← hw12, ← hy]; exact Blk.new w11 _ _)
                have HR12 := Lib.hid (Rp.str.slice.keptNo hr11 hk12)
                have HK12 := Lib.hid (hk11.trans' hk12)
                have HSJ := Lib.hid (HSI.out.keptNo HK12.out)
                clear hr11 hk11 hk12 hc HSH
                go_wp2_with fail
                clear hw12 hy
                refine (a_last (xs b) (T.l b) (FL b) w12 (HSJ.out.led b) (by have := HLN.out; omega)).mono ?_
                rintro e w13 ⟨rfl, hk13⟩
                have HK13 := Lib.hid (HK12.out.trans' hk13)
                have HBY3 := Lib.hid (HBY.out.kept hk13 (fun z => z))
                have HR13 := Lib.hid (Rp.str.slice.keptNo HR12.out hk13)
                clear hk13 HSJ HBY HR12
                go_wp2_with fail
                refine (HFI.out w13 HK13.out).mono ?_
                rintro e w14 ⟨A14, c14, rfl, hr14, hk14⟩
                obtain ⟨z, hz⟩ : ∃ v, w14.heap.size = v := ⟨_, rfl⟩
                obtain ⟨w15, hw15⟩ : ∃ v, w14.alloc (.cells #[.int .i64 on, .int .i64 oe, .int .i64 okd, .int .i64 os, .int .i64 oc, .int .i64 oq, .string onm, .int .i64 osz, .slice A14 ohs.length c14] 38) = v := ⟨_, rfl⟩
                have hk15 : Kp No w14 w15 := by rw [← hw15]; exact (Kp.refl _ _).alloc _
                have hbz : Blk w15 z 38 [.int .i64 on, .int .i64 oe, .int .i64 okd, .int .i64 os, .int .i64 oc, .int .i64 oq, .string onm, .int .i64 osz, .slice A14 ohs.length c14] := by rw [← hw15, ← hz]; exact Blk.new w14 _ _
                have hby := HBY3.out.kept (hk14.trans' hk15) (fun z => z)
                have z7 : w15.cell? ⟨z, 7, none⟩ = some _ := Blk.cell hbz rfl
                have z8 : w15.cell? ⟨z, 8, none⟩ = some _ := Blk.cell hbz rfl
                have y0 : w15.cell? ⟨y, 0, none⟩ = some _ := Blk.cell hby rfl
                have y1 : w15.cell? ⟨y, 1, none⟩ = some _ := Blk.cell hby rfl
                have hss := r_sameS osz osz ohs ohs A14 A11 c14 c11 w15 _ _ (Rp.str.slice.keptNo hr14 hk15) (Rp.str.slice.keptNo HR13.out (hk14.trans' hk15))
                rw [show decide (osz = osz ∧ ohs = ohs) = true from decide_eq_true ⟨rfl, rfl⟩] at hss
                have HSS := Lib.hid hss
                have HK15 := Lib.hid (HK13.out.trans' (hk14.trans' hk15))
                clear hr14 hk14 hk15 hbz hby hss HR13 HBY3 HFI
                go_wp2_with fail
                clear hw15 hz z7 z8 y0 y1
                refine HSS.out.mono ?_
                rintro e w16 ⟨rfl, hk16⟩
                have HSK := Lib.hid (HSI.out.keptNo (HK15.out.trans' hk16))
                have HKK := Lib.hid (HKI.out.trans' (HK15.out.trans' hk16))
                clear hk16 HSS
                go_wp2_with fail
                go_roundw
                case rel => exact ⟨i + 1, by omega, by go_num, HSK, HKK⟩
                case measure => simp [intOf]; omega
theorem modelLedgerUpto_holds : Rows.ModelLedgerUptoSaid := modelLedgerUpto_of modelLedgerUpto_walk
end
end Go.Proofs.Ytbncblnchcmgbaa
