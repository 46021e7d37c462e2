/-
  The document's drive: what it is in memory; Named, At, step.
-/
import Derived.Test.YtflodiljgphkdaaRefA
import Derived.Test.YtflodiljgphkdaaDisk4
import Derived.BigQuiet
namespace Go.Proofs.Ytflodiljgphkdaa
open Go.RowKit Go.ChangeShapes Go.WideShapes Go.ChangeAt

/-- its own block -/
def RBlk (w : World) (r : Nat) (v : Value) (x : DV) : Prop := Blk w r 102 [v, .int .i64 x.fuse, .bool x.off, .int .i64 x.steps]
/-- a row of files as it comes -/
def Shp (v : Value) : Prop := v = .slice none 0 0 ∨ ∃ g n c, v = .slice (some ⟨g, 0, none⟩) n c
theorem Shp.of_own {w : World} {S : Nat → Prop} {base : Nat} {e : TypeId} {v : Value} {l : List (ByteArray × FV)} (h : Own Rp.rf w S base e v l) : Shp v := by
  obtain ⟨xs, ⟨h0, h1⟩, _, h3⟩ := h
  rcases h1 with ⟨rfl, h1⟩ | ⟨g, cap, cur, rfl, _⟩
  · exact .inl rfl
  · exact .inr ⟨_, _, _, rfl⟩
structure RIn (w : World) (r : Nat) (v : Value) (x : DV) : Prop where
  blk : RBlk w r v x
  row : RS w v x.files
  ok : OkD x
  sh : Shp v
/-- A drive of the document's at r, that takes just the blocks F. -/
def RAt (w : World) (r : Nat) (x : DV) (F : Nat → Prop) : Prop := ∃ v, RIn w r v x ∧ ∀ k, F k ↔ k = r ∨ rblk v = some k
namespace RIn
variable {w w' : World} {r : Nat} {v : Value} {x : DV}
theorem ne (h : RIn w r v x) : rblk v ≠ some r := by
  intro hk
  obtain ⟨cs, h1⟩ := h.row.types hk
  have h2 : w.heap[r]? = some (.cells _ 102 (0, 0)) := h.blk
  rw [h1] at h2; injection h2 with h2; injection h2 with _ h2
  exact absurd h2 (by decide)
theorem kept {S : Nat → Prop} (h : RIn w r v x) (hk : Kp S w w') (hr : ¬ S r) (hs : ∀ k, rblk v = some k → ¬ S k) : RIn w' r v x := ⟨Blk.kept h.blk hk hr, h.row.kept hk hs, h.ok, h.sh⟩
theorem keptNo (h : RIn w r v x) (hk : Kp No w w') : RIn w' r v x := h.kept hk (fun x => x) (fun _ _ x => x)
theorem lt (h : RIn w r v x) : ∀ k, (k = r ∨ rblk v = some k) → k < w.heap.size := by
  rintro k (rfl | hk)
  · exact Blk.lt h.blk
  · exact h.row.lt hk
/-- its own fields turned -/
theorem turned (h : RIn w r v x) (hk : Kp (· = r) w w') {y : DV} (hb : RBlk w' r v y) (hf : y.files = x.files) (ho : OkD y) : RIn w' r v y := ⟨hb, by rw [hf]; exact h.row.kept hk (fun k hv e => h.ne (e ▸ hv)), ho, h.sh⟩
end RIn
namespace RAt
variable {w w' : World} {r : Nat} {x : DV} {F : Nat → Prop}
theorem ok (h : RAt w r x F) : OkD x := by obtain ⟨v, h, _⟩ := h; exact h.ok
theorem lt (h : RAt w r x F) : ∀ k, F k → k < w.heap.size := by
  obtain ⟨v, h, hF⟩ := h
  exact fun k hk => h.lt k ((hF k).1 hk)
theorem kept {S : Nat → Prop} (h : RAt w r x F) (hk : Kp S w w') (hs : ∀ k, F k → ¬ S k) : RAt w' r x F := by
  obtain ⟨v, h, hF⟩ := h
  exact ⟨v, h.kept hk (hs r ((hF r).2 (.inl rfl))) (fun k hv => hs k ((hF k).2 (.inr hv))), hF⟩
theorem keptNo (h : RAt w r x F) (hk : Kp No w w') : RAt w' r x F := h.kept hk fun _ _ x => x
end RAt

theorem okC_nat (c : UInt8) : okC c = (((decide (97 ≤ c.toNat) && decide (c.toNat ≤ 122)) || (decide (48 ≤ c.toNat) && decide (c.toNat ≤ 57))) || decide (c.toNat = 46)) := by
  have e46 : c = 46 ↔ c.toNat = 46 := ⟨fun h => by rw [h]; rfl, fun h => UInt8.toNat_inj.1 h⟩
  unfold okC
  rw [Bool.eq_iff_iff]
  simp only [Bool.or_eq_true, Bool.and_eq_true, decide_eq_true_eq, beq_iff_eq, e46, UInt8.le_iff_toNat_le]
  exact Iff.rfl
theorem fine_all {s : ByteArray} (h : ∀ j, j < s.size → okC (s.get! j) = true) : fineN s = (decide (1 ≤ s.size) && decide (s.size ≤ 80)) := by
  have : s.data.toList.all okC = true := by
    rw [List.all_eq_true]
    intro c hc
    obtain ⟨j, hj, rfl⟩ := List.mem_iff_getElem.1 hc
    have h1 := h j (by rw [← data_length]; exact hj)
    rw [← getD_get, List.getD_eq_getElem?_getD, List.getElem?_eq_getElem hj] at h1
    exact h1
  unfold fineN
  rw [this, Bool.and_true]
theorem fine_not {s : ByteArray} {j : Nat} (hj : j < s.size) (h : okC (s.get! j) = false) : fineN s = false := by
  have : s.data.toList.all okC = false := by
    rw [List.all_eq_false]
    refine ⟨s.get! j, ?_, by rw [h]; decide⟩
    have hl : j < s.data.toList.length := by rw [data_length]; exact hj
    rw [← getD_get, List.getD_eq_getElem?_getD, List.getElem?_eq_getElem hl]
    exact List.getElem_mem hl
  unfold fineN
  rw [this, Bool.and_false, Bool.and_false]

set_option maxRecDepth 100000 in
theorem r_named (s : ByteArray) (hs : s.size ≤ maxLen) (w : World) : Calls Try.prog 96 #[.string s] w fun e w' => e = .returned (.bool (fineN s)) ∧ Kp No w w' := by
  have hm : s.size ≤ 9223372036854775807 := by unfold maxLen at hs; omega
  clear hs
  go_enter Try.func96, Try.ntmps96
  go_wp2_with fail
  go_loopw [3] (fun iv wr => ∃ i : Nat, i ≤ s.size ∧ iv = .int .i64 (i : Int) ∧ Hid (∀ j, j < i → okC (s.get! j) = true) ∧ Hid (Kp No w wr)) (fun iv _ => s.size - (intOf iv).toNat)
  case atStart => exact ⟨0, Nat.zero_le _, rfl, Lib.hid (fun j hj => by omega), Lib.hid (Kp.refl _ _)⟩
  case round =>
    obtain ⟨i, hi, rfl, HA, HK⟩ := hrel
    by_cases hlt : i < s.size
    · have Bi : (i : Int) < (s.size : Int) := by omega
      have HC : Hid (okC (s.get! i) = (((decide (97 ≤ (s[i]'hlt).toNat) && decide ((s[i]'hlt).toNat ≤ 122)) || (decide (48 ≤ (s[i]'hlt).toNat) && decide ((s[i]'hlt).toNat ≤ 57))) || decide ((s[i]'hlt).toNat = 46))) := Lib.hid (by
        have hc := okC_nat (s.get! i)
        have e : s.get! i = s[i]'hlt := by
          have hl : i < s.data.toList.length := by rw [data_length]; exact hlt
          rw [← getD_get, List.getD_eq_getElem?_getD, List.getElem?_eq_getElem hl]; rfl
        rw [e] at hc ⊢
        exact hc)
      have HLT := Lib.hid hlt
      go_wp2_with fail
      all_goals first
        | (go_ret
           refine ⟨congrArg (fun b => Ending.returned (Value.bool b)) (fine_not HLT.out ?_).symm, HK.out⟩
           rw [HC.out]
           simp_all <;> omega)
        | (go_roundw
           case rel =>
             refine ⟨i + 1, by omega, by go_num, Lib.hid fun j hj => ?_, HK⟩
             rcases Nat.lt_or_ge j i with h | h
             · exact HA.out j h
             · obtain rfl : j = i := by omega
               rw [HC.out]
               simp_all <;> omega
           case measure => simp [intOf]; omega)
    · obtain rfl : i = s.size := by omega
      have hf := fine_all HA.out
      have HF := Lib.hid hf
      clear hf
      go_wp2_with fail
      all_goals
        go_ret
        refine ⟨congrArg (fun b => Ending.returned (Value.bool b)) ?_, HK.out⟩
        rw [HF.out, Bool.eq_iff_iff]
        simp
        omega

theorem less_nlt (a b : ByteArray) : Op.bytesLess a.toList b.toList = decide (nlt a b) := by
  rw [bytesLess_eq, Lib.toList_data, Lib.toList_data]; rfl
theorem same_at {ν : Type} {l : List (ByteArray × ν)} (hr : Rising l) {n : ByteArray} {p} (hp : l[rank n l]? = some p) : (p.1.toList == n.toList) = (mget n l).isSome := by
  rw [Bool.eq_iff_iff, beq_iff_eq, Lib.toList_data, Lib.toList_data]
  constructor
  · intro h
    have e := data_inj h
    cases hm : mget n l with
    | none => exact absurd e (rank_none hm hp)
    | some f => rfl
  · intro h
    obtain ⟨f, hf⟩ := Option.isSome_iff_exists.1 h
    rw [rank_at hr hf] at hp
    injection hp with hp
    rw [← hp]
theorem enc4_name (p : ByteArray × FV) : (enc4 p)[0]? = some (.string p.1) := rfl
set_option maxRecDepth 100000 in
theorem r_at (r : Nat) (v : Value) (x : DV) (n : ByteArray) (w : World) (h : RIn w r v x) :
    Calls Try.prog 72 #[.pointer (some ⟨r, 0, none⟩), .string n] w fun e w' => e = .returned (.tuple #[.int .i64 (rank n x.files : Nat), .bool (mget n x.files).isSome]) ∧ Kp No w w' := by
  obtain ⟨A, c, rfl, hc1, hc2, _⟩ := id h.row
  have HN := Lib.hid (show x.files.length ≤ 9223372036854775807 by unfold maxLen at hc2; omega)
  have H := Lib.hid h
  have c0 : w.cell? ⟨r, 0, none⟩ = some (.slice A x.files.length c) := Blk.cell h.blk rfl
  clear h hc1 hc2
  go_enter Try.func72, Try.ntmps72
  go_wp2_with fail
  go_loopw [6] (fun iv wr => ∃ i : Nat, i ≤ x.files.length ∧ iv = .int .i64 (i : Int) ∧ Hid (∀ j, j < i → ∀ p, x.files[j]? = some p → nlt p.1 n) ∧ Hid (Kp No w wr)) (fun iv _ => x.files.length - (intOf iv).toNat)
  case atStart => exact ⟨0, Nat.zero_le _, rfl, Lib.hid (fun j hj => by omega), Lib.hid (Kp.refl _ _)⟩
  case round =>
    obtain ⟨i, hi, rfl, HA, HK⟩ := hrel
    have c0 : wr.cell? ⟨r, 0, none⟩ = some (.slice A x.files.length c) := Blk.cell (H.out.keptNo HK.out).blk rfl
    have hNN := HN.out
    by_cases hlt : i < x.files.length
    · have Bi : (i : Int) < (x.files.length : Int) := by omega
      obtain ⟨p, hp⟩ : ∃ p, x.files[i]? = some p := ⟨_, List.getElem?_eq_getElem hlt⟩
      have HP := Lib.hid hp
      obtain ⟨g, rfl, _, hcell, _⟩ := (H.out.keptNo HK.out).row.cell hp
      have c1 : wr.cell? ⟨g, i * 4, none⟩ = some (.string p.1) := hcell 0 _ rfl
      clear hp hcell
      go_wp2_with fail
      · have hb : Op.bytesLess p.fst.toList n.toList = true := by assumption
        rw [less_nlt, decide_eq_true_eq] at hb
        go_roundw
        case rel =>
          refine ⟨i + 1, by omega, by go_num, Lib.hid fun j hj q hq => ?_, HK⟩
          rcases Nat.lt_or_ge j i with h | h
          · exact HA.out j h q hq
          · obtain rfl : j = i := by omega
            have := HP.out
            rw [hq] at this; injection this with this
            rw [this]; exact hb
        case measure => simp [intOf]; omega
      · have hb : Op.bytesLess p.fst.toList n.toList = false := by assumption
        rw [less_nlt, decide_eq_false_iff_not] at hb
        have hrk : rank n x.files = i := rank_eq hi HA.out (fun q hq => by have := HP.out; rw [hq] at this; injection this with this; rw [this]; exact hb)
        have HR := Lib.hid hrk
        clear hrk
        go_quiet (fail)
        go_wp2_with fail
        go_ret2
        have hsame := same_at H.out.ok.rising (n := n) (p := p) (by rw [HR.out]; exact HP.out)
        rw [HR.out, ← hsame]
        exact ⟨rfl, HK.out.drewN _⟩
    · obtain rfl : i = x.files.length := by omega
      have hrk : rank n x.files = x.files.length := rank_eq hi HA.out (fun q hq => by simp at hq)
      have hno : mget n x.files = none := (mget_none_iff _ _).2 fun hm => by
        obtain ⟨q, hq, e⟩ := List.mem_map.1 hm
        obtain ⟨j, hj, rfl⟩ := List.mem_iff_getElem.1 hq
        exact nlt_ne (HA.out j hj _ (List.getElem?_eq_getElem hj)) e
      have HR := Lib.hid (And.intro hrk hno)
      clear hrk hno
      go_wp2_with fail
      go_quiet (fail)
      go_wp2_with fail
      go_ret2
      rw [HR.out.1, HR.out.2]
      exact ⟨rfl, HK.out.drewN _⟩

set_option maxRecDepth 100000 in
/-- a step without power -/
theorem r_step_out (r : Nat) (v : Value) (x : DV) (w : World) (h : RBlk w r v x) (hf : x.fuse = 0) :
    Calls Try.prog 97 #[.pointer (some ⟨r, 0, none⟩)] w fun e w' => e = .returned (.bool false) ∧ RBlk w' r v { x with off := true } ∧ Kp (· = r) w w' := by
  have H := Lib.hid h
  have c1 : w.cell? ⟨r, 1, none⟩ = some (.int .i64 x.fuse) := Blk.cell h rfl
  have c2 : w.cell? ⟨r, 2, none⟩ = some _ := Blk.cell h rfl
  have f2 := Blk.fr h 2
  rw [hf] at c1
  clear h hf
  go_enter Try.func97, Try.ntmps97
  go_wp2_with fail
  go_ret
  exact ⟨rfl, H.out.set 2 (.bool true), (Kp.refl (· = r) w).setCell (p := ⟨r, 2, none⟩) (fun _ => rfl) _⟩
set_option maxRecDepth 100000 in
/-- a step with power -/
theorem r_step (r : Nat) (v : Value) (x : DV) (w : World) (h : RBlk w r v x) (ho : OkD x) (hf : x.fuse ≠ 0) :
    Calls Try.prog 97 #[.pointer (some ⟨r, 0, none⟩)] w fun e w' => e = .returned (.bool true) ∧ RBlk w' r v (stepped x) ∧ Kp (· = r) w w' := by
  have H := Lib.hid h
  have c1 : w.cell? ⟨r, 1, none⟩ = some (.int .i64 x.fuse) := Blk.cell h rfl
  have c3 : w.cell? ⟨r, 3, none⟩ = some (.int .i64 x.steps) := Blk.cell h rfl
  have f1 := Blk.fr h 1
  have f3 := Blk.fr h 3
  have hfd : (x.fuse == 0) = false := by simpa using hf
  have hwr := max_fuse ho.fuse ho.fuseW
  have h1 := ho.fuse
  clear h ho
  by_cases hp : 0 < x.fuse
  · have e : stepped x = { x with fuse := x.fuse - 1, steps := inc64 x.steps } := by
      unfold stepped; congr 1; omega
    rw [e]
    clear e
    go_enter Try.func97, Try.ntmps97
    go_wp2_with fail
    go_ret
    exact ⟨rfl, (H.out.set 1 _).set 3 _, ((Kp.refl (· = r) w).setCell (p := ⟨r, 1, none⟩) (fun _ => rfl) _).setCell (p := ⟨r, 3, none⟩) (fun _ => rfl) _⟩
  · have e : stepped x = { x with steps := inc64 x.steps } := by
      unfold stepped
      have : max (x.fuse - 1) (-1) = x.fuse := by omega
      rw [this]
    rw [e]
    clear e
    go_enter Try.func97, Try.ntmps97
    go_wp2_with fail
    go_ret
    exact ⟨rfl, H.out.set 3 _, (Kp.refl (· = r) w).setCell (p := ⟨r, 3, none⟩) (fun _ => rfl) _⟩
end Go.Proofs.Ytflodiljgphkdaa
