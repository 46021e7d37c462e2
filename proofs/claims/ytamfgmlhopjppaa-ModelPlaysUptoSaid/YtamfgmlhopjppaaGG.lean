/-
  Put together: SortL, Mod7.
-/
import Derived.Test.YtamfgmlhopjppaaShelf
import Derived.Test.YtamfgmlhopjppaaGB
import Derived.Test.YtamfgmlhopjppaaGA
import Derived.Sort.KeysCollected
import Derived.StringKeys
import Derived.Test.YtamfgmlhopjppaaGF
namespace Go.Proofs.Ytamfgmlhopjppaa
section
open Go.RowKit Go.ChangeShapes Go.WideShapes Go.ChangeAt
def nlt (a b : ByteArray) : Prop := a.data.toList < b.data.toList
instance (a b : ByteArray) : Decidable (nlt a b) := inferInstanceAs (Decidable (a.data.toList < b.data.toList))
theorem data_inj {a b : ByteArray} (h : a.data.toList = b.data.toList) : a = b := by
  rw [← bs_of a, h, bs_of]
theorem nlt_irrefl (a : ByteArray) : ¬ nlt a a := List.lt_irrefl _
theorem nlt_trans {a b c : ByteArray} (h : nlt a b) (k : nlt b c) : nlt a c := List.lt_trans h k
theorem nlt_ne {a b : ByteArray} (h : nlt a b) : a ≠ b := fun e => nlt_irrefl b (e ▸ h)
theorem nlt_asymm {a b : ByteArray} (h : nlt a b) : ¬ nlt b a := fun k => nlt_irrefl _ (nlt_trans h k)
theorem nlt_tri {a b : ByteArray} (h : ¬ nlt a b) (hn : a ≠ b) : nlt b a := by
  unfold nlt at *
  rw [List.not_lt] at h
  rcases Decidable.em (b.data.toList < a.data.toList) with h1 | h1
  · exact h1
  · rw [List.not_lt] at h1
    exact absurd (data_inj (List.le_antisymm h1 h)) hn

/-- rising names -/
def sortedN (l : List ByteArray) : List ByteArray := ((l.map fun s => s.data.toList).mergeSort leB).map bs
theorem sortedN_length (l : List ByteArray) : (sortedN l).length = l.length := by simp [sortedN]
theorem leB_trans (a b c : List UInt8) (h1 : leB a b = true) (h2 : leB b c = true) : leB a c = true := by simp only [leB, decide_eq_true_eq] at *; exact List.le_trans h1 h2
theorem leB_total (a b : List UInt8) : (leB a b || leB b a) = true := by simp only [leB, Bool.or_eq_true, decide_eq_true_eq]; exact List.le_total a b
theorem mem_sortedN {l : List ByteArray} {x : ByteArray} : x ∈ sortedN l ↔ x ∈ l := by
  unfold sortedN
  rw [List.mem_map]
  constructor
  · rintro ⟨y, hy, rfl⟩
    rw [List.mem_mergeSort, List.mem_map] at hy
    obtain ⟨z, hz, rfl⟩ := hy
    rw [bs_of]; exact hz
  · intro h
    exact ⟨x.data.toList, by rw [List.mem_mergeSort]; exact List.mem_map.2 ⟨x, h, rfl⟩, bs_of x⟩
/-- Names that rise already are the sorted ones of any row of the same. -/
theorem sortedN_eq {l l' : List ByteArray} (hp : l.Perm l') (hr : l'.Pairwise nlt) : sortedN l = l' := by
  have h1 : (l.map fun s => s.data.toList).mergeSort leB = l'.map fun s => s.data.toList := by
    rw [mergeSort_of_perm (hp.map _)]
    refine List.mergeSort_of_pairwise ?_
    refine List.pairwise_map.2 (hr.imp fun {a b} h => ?_)
    simp only [leB, decide_eq_true_eq]
    exact List.le_of_lt h
  unfold sortedN
  rw [h1, List.map_map]
  conv => rhs; rw [← List.map_id l']
  exact List.map_congr_left fun s _ => bs_of s
theorem perm_names {ν μ : Type} {l : List (ByteArray × ν)} {m : List (ByteArray × μ)} (hl : (l.map (·.1)).Nodup) (hm : (m.map (·.1)).Nodup) (h : ∀ n, mget n l = none ↔ mget n m = none) : (l.map (·.1)).Perm (m.map (·.1)) := by
  refine (List.perm_ext_iff_of_nodup hl hm).2 fun n => ?_
  have := h n
  rw [mget_none_iff, mget_none_iff] at this
  constructor
  · intro h1
    exact Classical.byContradiction fun h2 => this.2 h2 h1
  · intro h1
    exact Classical.byContradiction fun h2 => this.1 h2 h1

/-- A map keyed by texts, in the words of the kit's own laws. -/
theorem MapOf.owns {P : Program} {w : World} {b : Nat} {l : List (ByteArray × Value)} (K : TypeId) (hk : P.underlying K = some .string) (h : MapOf w b Value.string l) (hs : ∀ p ∈ l, p.1.size ≤ maxLen) (hn : l.length ≤ maxLen) :
    ∃ D0 : DataW Unit, w.ownsMap P K (fun _ => some (.nil, [])) b l.length D0 ∧ (strKeys D0).Perm (l.map fun p => p.1.data.toList) ∧ Maps.size D0 = l.length := by
  obtain ⟨es, clock, hb, h1, h2, h3, h4⟩ := h
  have hlen : es.size = l.length := by have := congrArg List.length h1; simpa using this
  have hkey : ∀ (j : Nat) e, es.toList[j]? = some e → ∃ p, l[j]? = some p ∧ e.key = .string p.1 ∧ p.1.size ≤ maxLen := by
    intro j e he
    have := congrArg (fun l : List (Value × Value) => l[j]?) h1
    simp only [List.getElem?_map, he, Option.map_some] at this
    cases hl : l[j]? with
    | none => rw [hl] at this; cases this
    | some p =>
      rw [hl] at this
      simp only [Option.map_some, Option.some.injEq, Prod.mk.injEq] at this
      exact ⟨p, rfl, this.1, hs p (List.mem_of_getElem? hl)⟩
  have hrd : ∀ (j : Nat) e, es.toList[j]? = some e → ∃ p, l[j]? = some p ∧ WideElems.rd P K (fun _ => some ((.nil : DataW Unit), [])) e = some (.string p.1.data.toList, .nil) := by
    intro j e he
    obtain ⟨p, hp, hk1, hps⟩ := hkey j e he
    refine ⟨p, hp, ?_⟩
    unfold WideElems.rd
    rw [hk1, WideMaps.keyOf_string_mk hk hps]
    rfl
  refine ⟨_, ⟨es, clock, hb, ⟨by rw [hlen]; exact hn, ⟨fun x hx => h3 x (Array.mem_toList_iff.1 hx), h4, ?_⟩, ?_⟩, Nat.le_of_eq hlen, rfl⟩, ?_, ?_⟩
  · have e1 : es.toList.map (·.key) = (l.map (·.1)).map Value.string := by
      have := congrArg (List.map Prod.fst) h1
      simpa [List.map_map, Function.comp_def] using this
    rw [e1]
    exact List.pairwise_map.2 (h2.imp fun hne e => hne (by injection e))
  · intro x hx
    obtain ⟨j, hj⟩ := List.mem_iff_getElem?.1 hx
    obtain ⟨p, _, h5⟩ := hrd j x hj
    exact ⟨_, h5⟩
  · refine ((sorted_perm _).map _).trans ?_
    refine List.Perm.of_eq ?_
    apply List.ext_getElem?
    intro j
    simp only [List.getElem?_map]
    cases he : es.toList[j]? with
    | none =>
      have : l[j]? = none := by
        rw [List.getElem?_eq_none_iff] at he ⊢
        rw [Array.length_toList] at he; omega
      rw [this]; rfl
    | some e =>
      obtain ⟨p, hp, h5⟩ := hrd j e he
      rw [hp]
      simp only [Option.map_some]
      unfold WideElems.rg
      rw [h5]; rfl
  · have := (sorted_perm (es.toList.map (WideElems.rg P K (fun _ => some ((.nil : DataW Unit), []))))).length_eq
    show List.length _ = _
    rw [this, List.length_map, Array.length_toList, hlen]

/-- what slices.Sorted hands back, as a slice of the call's own -/
theorem own_of_sorted {w : World} {base : Nat} {v : Value} {ss : List (List UInt8)} (h : w.ownsRow base 9 1 v ss.length ((ss.mergeSort (fun x y => decide (x ≤ y))).map Go.Proofs.encStr)) {l : List ByteArray} (hp : ss.Perm (l.map fun s => s.data.toList)) (hs : ∀ s ∈ l, s.size ≤ maxLen) :
    Own Rp.str w No base 9 v (sortedN l) := by
  have e1 : (ss.mergeSort (fun x y => decide (x ≤ y))).map Go.Proofs.encStr = (sortedN l).map Value.string := by
    unfold sortedN
    rw [← mergeSort_of_perm hp, List.map_map]
    exact List.map_congr_left fun x _ => rfl
  rw [e1] at h
  have hl : ss.length = ((sortedN l).map Value.string).length := by rw [List.length_map, sortedN_length, hp.length_eq, List.length_map]
  rw [hl] at h
  refine Own.ofRaw (S := No) Rp.str_by (Own.of_raw h (fun u hu => ?_)) (fun a ha => hs a (mem_sortedN.1 ha)) No
  obtain ⟨a, _, rfl⟩ := List.mem_map.1 hu
  rfl
end

section
open Go.RowKit Go.ChangeShapes Go.WideShapes Go.ChangeAt

theorem m_keys_Op (m : Nat) (w : World) : Calls Try.prog 36 #[.map (some m)] w fun e w' => e = .returned (.func (.func 48) #[] #[.pointer (some ⟨w.heap.size, 0, none⟩)]) ∧ w' = w.alloc (.cells #[.map (some m)] 80) :=
  callsIn_wide.1 (sh_keys_Op (some m) w)
theorem m_sorted_Op (m : Nat) (l : List (ByteArray × Value)) (w : World) (hM : MapOf w m Value.string l) (hs : ∀ p ∈ l, p.1.size ≤ maxLen) (hn : l.length ≤ 1000000) :
    Calls Try.prog 35 #[.func (.func 48) #[] #[.pointer (some ⟨w.heap.size, 0, none⟩)]] (w.alloc (.cells #[.map (some m)] 80)) fun e w' =>
      ∃ A c, e = .returned (.slice A (sortedN (l.map (·.1))).length c) ∧ Own Rp.str w' No (w.heap.size + 1) 9 (.slice A (sortedN (l.map (·.1))).length c) (sortedN (l.map (·.1))) ∧ Kp No w w' := by
  obtain ⟨D0, h1, h2, h3⟩ := hM.owns (P := Try.prog) 9 Try.underlying9 hs (by unfold maxLen; omega)
  refine (callsIn_wide.1 (sh_sorted_Op m l.length D0 _ w h1 (by rw [h3]; unfold maxLen; omega) (by rw [h3]; omega))).mono ?_
  rintro e w' ⟨v, ss, rfl, hp, hrow, _, hb⟩
  have hown := own_of_sorted (l := l.map (·.1)) hrow (by rw [List.map_map]; exact hp.trans h2) (fun s hs' => by obtain ⟨p, hp, rfl⟩ := List.mem_map.1 hs'; exact hs p hp)
  have e1 : (w.alloc (.cells #[.map (some m)] 80)).heap.size = w.heap.size + 1 := by simp
  rw [e1] at hown
  obtain ⟨A, c, rfl⟩ := hown.shape
  exact ⟨A, c, rfl, hown, ((Kp.refl No w).alloc _).transNo (Kp.ofBelow hb (Nat.le_refl _))⟩
theorem mput_len {κ α : Type} [DecidableEq κ] (k : κ) (v : α) : ∀ l : List (κ × α), (mput k v l).length ≤ l.length + 1
  | [] => by simp [mput]
  | (k', v') :: l => by
    unfold mput
    split
    · simp
    · have := mput_len k v l; simp only [List.length_cons]; omega
theorem mdel_len {κ α : Type} [DecidableEq κ] (k : κ) : ∀ l : List (κ × α), (mdel k l).length ≤ l.length
  | [] => by simp [mdel]
  | (k', v') :: l => by
    unfold mdel
    split
    · simp
    · have := mdel_len k l; simp only [List.length_cons]; omega
theorem liveG_mem {m : List (ByteArray × OpL)} {o : OpL} {k : ByteArray} (h : k ∈ (liveG m o).map (·.1)) : k = o.name ∨ k ∈ m.map (·.1) := by
  unfold liveG at h
  split at h
  · exact (mem_keys_mput _ _ _ _).1 h
  · split at h
    · exact .inr (mem_keys_mdel h)
    · exact .inr h
theorem live_fold : ∀ (L : List OpL) (m : List (ByteArray × OpL)), (∀ k ∈ (L.foldl liveG m).map (·.1), k ∈ m.map (·.1) ∨ ∃ o ∈ L, k = o.name) ∧ (L.foldl liveG m).length ≤ m.length + L.length
  | [], m => ⟨fun k hk => .inl hk, by simp⟩
  | o :: L, m => by
    obtain ⟨h1, h2⟩ := live_fold L (liveG m o)
    constructor
    · intro k hk
      rcases h1 k hk with h | ⟨o2, h, e⟩
      · rcases liveG_mem h with h | h
        · exact .inr ⟨o, List.mem_cons_self, h⟩
        · exact .inl h
      · exact .inr ⟨o2, List.mem_cons_of_mem _ h, e⟩
    · have : (liveG m o).length ≤ m.length + 1 := by
        unfold liveG
        split
        · exact mput_len _ _ _
        · split
          · have := mdel_len o.name m; omega
          · omega
      simp only [List.foldl_cons, List.length_cons]
      omega
theorem pathL_mem {ls : List ((Int × Int) × LineL)} : ∀ {f : Nat} {p : Int × Int} {r : List OpL}, pathL ls f p = some r → (∀ o ∈ r, ∃ q l, mget q ls = some l ∧ l.op = o) ∧ r.length ≤ f
  | 0, p, r, h => by
    unfold pathL at h
    split at h
    · injection h with h; subst h; exact ⟨fun o ho => (by simp at ho), Nat.le_refl _⟩
    · cases h
  | f + 1, p, r, h => by
    unfold pathL at h
    split at h
    · injection h with h; subst h; exact ⟨fun o ho => (by simp at ho), Nat.zero_le _⟩
    · split at h
      · cases h
      · rename_i l hl
        obtain ⟨r', hr, rfl⟩ := Option.map_eq_some_iff.1 h
        obtain ⟨h1, h2⟩ := pathL_mem hr
        refine ⟨fun o ho => ?_, by simp only [List.length_cons]; omega⟩
        rcases List.mem_cons.1 ho with rfl | ho
        · exact ⟨_, l, hl, rfl⟩
        · exact h1 o ho
theorem pathD_mem {M : MV} (hok : OkM M) (p : Int × Int) : (∀ o ∈ pathD M p, ∃ q l, mget q M.lines = some l ∧ l.op = o) ∧ (pathD M p).length ≤ 1000000 := by
  unfold pathD pathM
  cases h : pathL M.lines p.1.toNat p with
  | none => exact ⟨fun o ho => (by simp at ho), by simp⟩
  | some r =>
    obtain ⟨h1, h2⟩ := pathL_mem h
    refine ⟨fun o ho => h1 o (by simpa using ho), ?_⟩
    simp only [Option.map_some, Option.getD_some, List.length_reverse]
    cases r with
    | nil => simp
    | cons o r =>
      have hp : p ≠ (0, 0) := fun e => by rw [e, pathL_zero] at h; cases h
      cases hg : mget p M.lines with
      | none => rw [pathL_none hp hg] at h; cases h
      | some l => have := hok.low p l hg; omega
def namesM (M : MV) (p : Int × Int) : List ByteArray := sortedN ((liveL1 (pathD M p)).map (·.1))
set_option maxRecDepth 100000 in
set_option maxHeartbeats 4000000 in
theorem m_names (p : Int × Int) (m : Nat) (M : MV) (F : Nat → Prop) (w : World) (hM : MAt w m M F) (hok : OkM M) :
    Calls Try.prog 18 #[.pointer (some ⟨m, 0, none⟩), spotV p] w fun e w' => ∃ A c, e = .returned (.tuple #[.slice A (namesM M p).length c, .bool (pathM M p).isSome]) ∧ Own Rp.str w' No w.heap.size 9 (.slice A (namesM M p).length c) (namesM M p) ∧ Kp No w w' := by
  have hnum : ∀ o ∈ pathD M p, o.name.size ≤ maxLen := fun o ho => by
    obtain ⟨q, l, hq, rfl⟩ := (pathD_mem hok p).1 o ho
    obtain ⟨_, _, _, hin, _⟩ := hM
    exact (hin.nums hq).1.2.2.2.2.2.2.1
  have hlen := (pathD_mem hok p).2
  obtain ⟨hf1, hf2⟩ := live_fold (pathD M p) []
  obtain ⟨wa, hwa⟩ : ∃ v, w.alloc (.cells #[.int .i64 p.1, .int .i64 p.2] 37) = v := ⟨_, rfl⟩
  have hka : Kp No w wa := by rw [← hwa]; exact (Kp.refl _ _).alloc _
  obtain ⟨at_, hat⟩ : ∃ v, w.heap.size = v := ⟨_, rfl⟩
  have hba : Blk wa at_ 37 [.int .i64 p.1, .int .i64 p.2] := by rw [← hwa, ← hat]; exact Blk.new w _ _
  have s0 : wa.cell? ⟨at_, 0, none⟩ = some _ := Blk.cell hba rfl
  have s1 : wa.cell? ⟨at_, 1, none⟩ = some _ := Blk.cell hba rfl
  have hlv := m_live p m M F wa (hM.keptNo hka) hok
  obtain ⟨B, hB⟩ : ∃ B, (pathM M p).isSome = B := ⟨_, rfl⟩
  obtain ⟨V, hV⟩ : ∃ V, liveL1 (pathD M p) = V := ⟨_, rfl⟩
  have hsz : ∀ k ∈ V.map (·.1), k.size ≤ maxLen := fun k hk => by
    rw [← hV] at hk
    rcases hf1 k hk with h | ⟨o, ho, rfl⟩
    · simp at h
    · exact hnum o ho
  have hvl : V.length ≤ 1000000 := by
    rw [← hV]
    have h2 : (liveL1 (pathD M p)).length ≤ ([] : List (ByteArray × OpL)).length + (pathD M p).length := hf2
    simp only [List.length_nil] at h2
    omega
  unfold namesM
  rw [hV] at hlv ⊢
  rw [hB] at hlv ⊢
  obtain ⟨N, hN⟩ : ∃ N, sortedN (V.map (·.1)) = N := ⟨_, rfl⟩
  rw [hN]
  unfold spotV at hlv ⊢
  have HLV := Lib.hid hlv
  have HKA := Lib.hid hka
  have HSZ := Lib.hid hsz
  have HVL := Lib.hid hvl
  have HNE := Lib.hid hN
  clear hlv hka hba hM hok hnum hlen hf1 hf2 hsz hvl hV hB hN
  go_enter Try.func18, Try.ntmps18
  go_wp2_with fail
  clear hwa s0 s1 hat
  refine HLV.out.mono ?_
  rintro e w1 ⟨b, rfl, hbw, hmp, hk1⟩
  obtain ⟨lv, hm, hkey, _⟩ := hmp
  have HK1 := Lib.hid (HKA.out.trans' hk1)
  have hks := m_keys_Op b w1
  have hll : lv.length ≤ 1000000 := by
    have h1 := congrArg List.length hkey
    simp only [List.length_map] at h1
    have := HVL.out
    omega
  have hso := m_sorted_Op b lv w1 hm (fun q hq => HSZ.out q.1 (by rw [← hkey]; exact List.mem_map.2 ⟨q, hq, rfl⟩)) hll
  rw [hkey, HNE.out] at hso
  have HKS := Lib.hid hks
  have HSO := Lib.hid hso
  clear hbw hm hkey hk1 hks hll hso HLV HKA
  go_wp2_with fail
  refine HKS.out.mono ?_
  rintro e w2 ⟨rfl, rfl⟩
  go_wp2_with fail
  refine HSO.out.mono ?_
  rintro e w3 ⟨A, c, rfl, hown, hk3⟩
  have HOW := Lib.hid hown
  have HK3 := Lib.hid hk3
  clear hown hk3
  go_wp2_with fail
  exact bodyPost_ret (results_tmp2 rfl _ _ _) rfl ⟨A, c, rfl, HOW.out.mono (by have := HK1.out.size; omega) (fun _ x => x), HK1.out.trans' HK3.out⟩
end
end Go.Proofs.Ytamfgmlhopjppaa
