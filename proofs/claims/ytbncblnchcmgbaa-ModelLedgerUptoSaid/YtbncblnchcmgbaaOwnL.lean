/-
  Operations of the call's own: their hashes turned in place; ledger.own.
-/
import Derived.Test.YtbncblnchcmgbaaClon
import Derived.Test.YtbncblnchcmgbaaDeed3
namespace Go.Proofs.Ytbncblnchcmgbaa
open Go.RowKit Go.ChangeShapes Go.WideShapes Go.ChangeAt

theorem slice_one' {w : World} {S : Nat → Prop} {hv : Value} {l : List ByteArray} (h : Rp.str.slice.R w S [hv] l) : hv.oneCell' = true := by
  obtain ⟨A, c, he, _⟩ := h
  simp only [List.cons.injEq, and_true] at he
  subst he
  rfl
theorem Own.hashed {w : World} {S S' : Nat → Prop} {base g c : Nat} {l : List OpL} (h : Own Rp.opl w S base 38 (.slice (some ⟨g, 0, none⟩) l.length c) l) {i : Nat} {o : OpL} (hi : l[i]? = some o) {hv : Value} (hr : Rp.str.slice.R w S' [hv] o.hashes) (hS : ∀ k, S k → S' k) (hg : ¬ S' g) :
    Own Rp.opl (w.setCell ⟨g, i * 9 + 8, none⟩ hv) S' base 38 (.slice (some ⟨g, 0, none⟩) l.length c) l := by
  obtain ⟨xs, h1, h2, h3⟩ := h
  have hk : Kp (· = g) w (w.setCell ⟨g, i * 9 + 8, none⟩ hv) := (Kp.refl (· = g) w).setCell (p := ⟨g, i * 9 + 8, none⟩) (fun _ => rfl) _
  refine ⟨xs.set (i * 9 + 8) hv, (h1.stored (i * 9 + 8) hv).1, fun u hu => ?_, fun j a ha => ?_⟩
  · rcases List.mem_or_eq_of_mem_set hu with hu | rfl
    · exact h2 u hu
    · exact slice_one' hr
  · have h4 := h3 j a ha
    have h4' : Rp.opl.R w S ((xs.drop (j * 9)).take 9) a := h4
    show Rp.opl.R _ S' (((xs.set (i * 9 + 8) hv).drop (j * 9)).take 9) a
    have hsk : ∀ {cs b}, Rp.opl.R w S cs b → Rp.opl.R (w.setCell ⟨g, i * 9 + 8, none⟩ hv) S' cs b := fun hR => Rp.opl.more (Rp.opl.kept hR hk (fun k hk2 _ e => hg (hS _ (e ▸ hk2)))) hS
    by_cases hlt : i * 9 + 8 < j * 9
    · rw [List.drop_set_of_lt hlt]
      exact hsk h4'
    · rw [List.drop_set, if_neg hlt, List.take_set]
      by_cases hij : j = i
      · subst hij
        rw [hi] at ha
        injection ha with ha
        subst ha
        obtain ⟨v, he, hn, _⟩ := h4'
        rw [he, show j * 9 + 8 - j * 9 = 8 by omega]
        refine ⟨hv, rfl, hn, ?_⟩
        exact Rp.str.slice.kept hr hk (fun k hk2 _ e => hg (e ▸ hk2))
      · have hge : 9 ≤ i * 9 + 8 - j * 9 := by omega
        rw [List.set_eq_of_length_le (by rw [List.length_take]; omega)]
        exact hsk h4'
theorem Own.at_opl {w : World} {S : Nat → Prop} {base : Nat} {A : Option Addr} {c : Nat} {l : List OpL} (h : Own Rp.opl w S base 38 (.slice A l.length c) l) {i : Nat} {o : OpL} (hi : l[i]? = some o) :
    ∃ g A' c', A = some ⟨g, 0, none⟩ ∧ base ≤ g ∧ (∃ cs, w.heap[g]? = some (.cells cs 38 (0, 0))) ∧ (∀ (j : Nat) u, (o.cells (.slice A' o.hashes.length c'))[j]? = some u → w.cell? ⟨g, i * 9 + j, none⟩ = some u) ∧ (∀ j, w.frozen? ⟨g, j, none⟩ = false) ∧ o.nums ∧ Rp.str.slice.R w S [.slice A' o.hashes.length c'] o.hashes := by
  obtain ⟨xs, ⟨h0, h1⟩, h2, h3⟩ := h
  have hlt := (List.getElem?_eq_some_iff.1 hi).1
  rcases h1 with ⟨he, h1⟩ | ⟨g, cap, cur, he, hb, hg, hn, hm, hc, ht⟩
  · omega
  · injection he with he
    subst he
    obtain ⟨v, he2, hnum, hr⟩ : Rp.opl.R w S ((xs.drop (i * 9)).take 9) o := h3 i o hi
    obtain ⟨A', c', hv, _⟩ := id hr
    simp only [List.cons.injEq, and_true] at hv
    subst hv
    refine ⟨g, A', c', rfl, hb, ⟨_, hg⟩, fun j u hu => ?_, fun j => by simp [World.frozen?, hg], hnum, hr⟩
    have hj : j < 9 := by have := (List.getElem?_eq_some_iff.1 hu).1; simpa [OpL.cells] using this
    rw [← he2, List.getElem?_take_of_lt hj, List.getElem?_drop] at hu
    have hlt2 : i * 9 + j < l.length * 9 := by omega
    rw [← ht, List.getElem?_take_of_lt (by exact hlt2), Array.getElem?_toList] at hu
    simp [World.cell?, hg, hu]
/-- all hashes lie in other blocks than they did -/
theorem Own.rehash {w : World} {S S' : Nat → Prop} {base g c : Nat} {l : List OpL} (h : Own Rp.opl w S base 38 (.slice (some ⟨g, 0, none⟩) l.length c) l) (hr : ∀ (j : Nat) o, l[j]? = some o → ∃ v, w.cell? ⟨g, j * 9 + 8, none⟩ = some v ∧ Rp.str.slice.R w S' [v] o.hashes) :
    Own Rp.opl w S' base 38 (.slice (some ⟨g, 0, none⟩) l.length c) l := by
  have ha := fun {i : Nat} {o : OpL} (hi : l[i]? = some o) => Own.at_opl h hi
  obtain ⟨xs, h1, h2, h3⟩ := h
  refine ⟨xs, h1, h2, fun j o hj => ?_⟩
  obtain ⟨v, he, hn, _⟩ : Rp.opl.R w S ((xs.drop (j * 9)).take 9) o := h3 j o hj
  show Rp.opl.R w S' ((xs.drop (j * 9)).take 9) o
  obtain ⟨u, hu, hr2⟩ := hr j o hj
  obtain ⟨h0, h1⟩ := h1
  have hlt := (List.getElem?_eq_some_iff.1 hj).1
  rcases h1 with ⟨he2, h1⟩ | ⟨g', cap, cur, he2, hb, hg, hn2, hm, hc, ht⟩
  · omega
  · injection he2 with he2
    injection he2 with he2
    injection he2 with he2
    subst he2
    have h8 : (o.cells v)[8]? = some v := rfl
    rw [← he, List.getElem?_take_of_lt (by omega), List.getElem?_drop] at h8
    have hlt2 : j * 9 + 8 < l.length * 9 := by omega
    rw [← ht, List.getElem?_take_of_lt (by exact hlt2), Array.getElem?_toList] at h8
    have h9 : w.cell? ⟨g, j * 9 + 8, none⟩ = some v := by simp [World.cell?, hg, h8]
    rw [h9] at hu
    injection hu with hu
    subst hu
    exact ⟨v, he, hn, hr2⟩
/-- new since a world, but for one block -/
def New (w : World) (g : Nat) : Nat → Prop := fun k => w.heap.size ≤ k ∧ k ≠ g
set_option maxRecDepth 100000 in
set_option maxHeartbeats 2000000 in
/-- ledger.own -/
theorem c_own (l : List OpL) (A : Option Addr) (c : Nat) (w : World) (S : Nat → Prop) (hl : Rp.opl.slice.R w S [.slice A l.length c] l) (hll : l.length ≤ 1000000) (hsm : ∀ o ∈ l, o.hashes.length ≤ 1000000) :
    Calls Try.prog 47 #[.slice A l.length c] w fun e w' => ∃ A' c', e = .returned (.slice A' l.length c') ∧ (∀ g, A' = some ⟨g, 0, none⟩ → Own Rp.opl w' (New w g) w.heap.size 38 (.slice A' l.length c') l) ∧ (A' = none ∨ ∃ g, A' = some ⟨g, 0, none⟩) ∧ Own Rp.opl w' (fun k => w.heap.size ≤ k) w.heap.size 38 (.slice A' l.length c') l ∧ Kp No w w' := by
  have hcl := c_cloneO l A c w _ (Rp.opl.slice.bnd hl) hll
  have HCL := Lib.hid hcl
  have HSM := Lib.hid hsm
  clear hcl hsm hl
  go_enter Try.func47, Try.ntmps47
  go_wp2_with fail
  refine HCL.out.mono ?_
  rintro e w1 ⟨A1, c1, rfl, hown, hk1⟩
  have HO := Lib.hid hown
  have HK := Lib.hid hk1
  clear hown hk1
  by_cases hl0 : l.length = 0
  · have hl0' : l = [] := List.eq_nil_of_length_eq_zero hl0
    subst hl0'
    have hem : ∀ S', Own Rp.opl w1 S' w.heap.size 38 (.slice A1 ([] : List OpL).length c1) [] := fun S' => by
      obtain ⟨xs, h1, h2, _⟩ := HO.out
      exact ⟨xs, h1, h2, fun i a h => by simp at h⟩
    have hsh : A1 = none ∨ ∃ g, A1 = some ⟨g, 0, none⟩ := by
      obtain ⟨xs, ⟨_, h1⟩, _⟩ := HO.out
      rcases h1 with ⟨he, _⟩ | ⟨g, cap, cur, he, _⟩
      · injection he with he; exact .inl he
      · injection he with he; exact .inr ⟨g, he⟩
    have HEM := Lib.hid hem
    have HSH := Lib.hid hsh
    clear hem hsh hl0 HO
    go_wp2_with fail
    go_loopw [9] (fun iv wr => iv = .int .i64 0 ∧ wr = w1) (fun _ _ => 0)
    case atStart => exact ⟨rfl, rfl⟩
    case round =>
      obtain ⟨rfl, rfl⟩ := hrel
      go_wp2_with fail
      go_ret
      exact ⟨_, _, rfl, fun g _ => HEM.out _, HSH.out, HEM.out _, HK.out⟩
  obtain ⟨o0, ho0⟩ : ∃ o, l[0]? = some o := ⟨_, List.getElem?_eq_getElem (by omega)⟩
  obtain ⟨g, _, _, rfl, hgw, _⟩ := Own.at_opl HO.out ho0
  have HO1 : Hid (Own Rp.opl w1 (fun k => (S k ∧ k < w.heap.size) ∨ New w g k) w.heap.size 38 (.slice (some ⟨g, 0, none⟩) l.length c1) l) := Lib.hid (HO.out.mono (Nat.le_refl _) (fun k hk => .inl hk))
  clear ho0 HO hl0
  go_wp2_with fail
  go_loopw [9] (fun iv wr => ∃ i : Nat, i ≤ l.length ∧ iv = .int .i64 (i : Int) ∧ Hid (Own Rp.opl wr (fun k => (S k ∧ k < w.heap.size) ∨ New w g k) w.heap.size 38 (.slice (some ⟨g, 0, none⟩) l.length c1) l) ∧ Hid (∀ (j : Nat) o, j < i → l[j]? = some o → ∃ v, wr.cell? ⟨g, j * 9 + 8, none⟩ = some v ∧ Rp.str.slice.R wr (New w g) [v] o.hashes) ∧ Hid (Kp No w wr)) (fun iv _ => l.length - (intOf iv).toNat)
  case atStart => exact ⟨0, Nat.zero_le _, rfl, HO1, Lib.hid (fun j o hj => absurd hj (Nat.not_lt_zero _)), HK⟩
  case round =>
    clear HO1 HK
    obtain ⟨i, hi, rfl, HO, HN, HK⟩ := hrel
    by_cases hlt : i < l.length
    · have hli : (i : Int) < (l.length : Int) := by omega
      obtain ⟨o, ho⟩ : ∃ o, l[i]? = some o := ⟨_, List.getElem?_eq_getElem hlt⟩
      obtain ⟨g', A', c', hg', _, ⟨cs, hcs⟩, hcell, hfr, _, hrd⟩ := Own.at_opl HO.out ho
      injection hg' with hg'
      injection hg' with hg'
      subst hg'
      have c8 : wr.cell? ⟨g, i * 9 + 8, none⟩ = some (.slice A' o.hashes.length c') := hcell 8 _ rfl
      have hcl := c_cloneS o.hashes A' c' wr _ hrd (HSM.out o (List.mem_of_getElem? ho))
      have HCL := Lib.hid hcl
      have HOI := Lib.hid ho
      have HCS := Lib.hid hcs
      have hgl : g < wr.heap.size := (Array.getElem?_eq_some_iff.1 hcs).1
      clear ho hcell hrd hcl hcs
      go_wp2_with fail
      refine HCL.out.mono ?_
      rintro e w2 ⟨A5, c5, rfl, hown5, hk2⟩
      have c8' : w2.cell? ⟨g, i * 9 + 8, none⟩ = some (.slice A' o.hashes.length c') := (hk2.cell (lt_of_cell c8) (fun x => x)).trans c8
      have hcs2 : w2.heap[g]? = some (.cells cs 38 (0, 0)) := (hk2.block g hgl (fun x => x)).trans HCS.out
      have f8 : w2.frozen? ⟨g, i * 9 + 8, none⟩ = false := by simp [World.frozen?, hcs2]
      have hblk : Blk w2 g 38 cs.toList := by unfold Blk; rw [hcs2]
      have HBLK := Lib.hid hblk
      have HCS2 := Lib.hid hcs2
      have HO2 := Lib.hid (HO.out.keptNo hk2)
      have HN2 : Hid (∀ (j : Nat) o, j < i → l[j]? = some o → ∃ v, w2.cell? ⟨g, j * 9 + 8, none⟩ = some v ∧ Rp.str.slice.R w2 (New w g) [v] o.hashes) := Lib.hid (fun j o hj ho => by
        obtain ⟨v, h1, h2⟩ := HN.out j o hj ho
        exact ⟨v, (hk2.cell (lt_of_cell h1) (fun x => x)).trans h1, Rp.str.slice.keptNo h2 hk2⟩)
      have HR5 : Hid (Rp.str.slice.R w2 (New w g) [.slice A5 o.hashes.length c5] o.hashes) := Lib.hid (Rp.str.slice.more hown5.readFrom (fun k hk => by
        have hws := HK.out.size
        rcases hk with hk | hk
        · exact hk.elim
        · exact ⟨by omega, by omega⟩))
      have HK2 := Lib.hid (HK.out.trans' hk2)
      clear hcs2 hblk hown5 hk2 HCL HO HN HK HCS c8 hgl
      go_wp2_with fail
      have hk3 : Kp (· = g) w2 (w2.setCell ⟨g, i * 9 + 8, none⟩ (.slice A5 o.hashes.length c5)) := (Kp.refl (· = g) w2).setCell (p := ⟨g, i * 9 + 8, none⟩) (fun _ => rfl) _
      have hb3 := Blk.set HBLK.out (i * 9 + 8) (.slice A5 o.hashes.length c5)
      have h8 : cs.toList[i * 9 + 8]? = some (.slice A' o.hashes.length c') := by
        have := c8'
        simp [World.cell?, HCS2.out] at this
        rw [Array.getElem?_toList]; exact this
      have HO3 : Hid (Own Rp.opl (w2.setCell ⟨g, i * 9 + 8, none⟩ (.slice A5 o.hashes.length c5)) (fun k => (S k ∧ k < w.heap.size) ∨ New w g k) w.heap.size 38 (.slice (some ⟨g, 0, none⟩) l.length c1) l) := Lib.hid (HO2.out.hashed HOI.out (Rp.str.slice.more HR5.out (fun k hk => .inr hk)) (fun k hk => hk) (fun h => by
        rcases h with h | h
        · have := h.2; omega
        · exact h.2 rfl))
      have HN3 : Hid (∀ (j : Nat) o', j < i + 1 → l[j]? = some o' → ∃ v, (w2.setCell ⟨g, i * 9 + 8, none⟩ (.slice A5 o.hashes.length c5)).cell? ⟨g, j * 9 + 8, none⟩ = some v ∧ Rp.str.slice.R (w2.setCell ⟨g, i * 9 + 8, none⟩ (.slice A5 o.hashes.length c5)) (New w g) [v] o'.hashes) := Lib.hid (fun j o' hj ho' => by
        rcases Nat.lt_or_ge j i with h | h
        · obtain ⟨v, h1, h2⟩ := HN2.out j o' h ho'
          refine ⟨v, Blk.cell hb3 ?_, Rp.str.slice.kept h2 hk3 (fun k hk _ e => hk.2 e)⟩
          rw [List.getElem?_set_ne (by omega), Array.getElem?_toList]
          simpa [World.cell?, HCS2.out] using h1
        · obtain rfl : j = i := by omega
          have ho := HOI.out
          rw [ho'] at ho
          injection ho with ho
          subst ho
          refine ⟨_, Blk.cell hb3 ?_, Rp.str.slice.kept HR5.out hk3 (fun k hk _ e => hk.2 e)⟩
          rw [List.getElem?_set_self (List.getElem?_eq_some_iff.1 h8).1])
      have HK3 : Hid (Kp No w (w2.setCell ⟨g, i * 9 + 8, none⟩ (.slice A5 o.hashes.length c5))) := Lib.hid (HK2.out.trans hk3 (fun k hk e => absurd hgw (by omega)))
      clear hk3 hb3 h8
      go_roundw
      case rel => exact ⟨i + 1, by omega, by go_num, HO3, HN3, HK3⟩
      case measure => simp [intOf]; omega
    · obtain rfl : i = l.length := by omega
      go_wp2_with fail
      go_ret
      have hfin := HO.out.rehash (fun j o hj => HN.out j o (List.getElem?_eq_some_iff.1 hj).1 hj)
      refine ⟨_, _, rfl, fun g' hg' => ?_, .inr ⟨g, rfl⟩, hfin.mono (Nat.le_refl _) (fun k hk => hk.1), HK.out⟩
      injection hg' with hg'
      injection hg' with hg'
      subst hg'
      exact hfin
end Go.Proofs.Ytbncblnchcmgbaa
