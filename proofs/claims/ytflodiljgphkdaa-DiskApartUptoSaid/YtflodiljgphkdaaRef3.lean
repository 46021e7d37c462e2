/-
  The document's drive: Sync, Read, Remove, Fuse, New.
-/
import Derived.Test.YtflodiljgphkdaaRef2
namespace Go.Proofs.Ytflodiljgphkdaa
open Go.RowKit Go.ChangeShapes Go.WideShapes Go.ChangeAt

theorem RIn.file {w : World} {r : Nat} {v : Value} {x : DV} (h : RIn w r v x) {n : ByteArray} {f : FV} (hf : mget n x.files = some f) : ∃ g c, v = .slice (some ⟨g, 0, none⟩) x.files.length c ∧ x.files.length ≤ c ∧ rblk v = some g := by
  obtain ⟨A', c', rfl, h1, _⟩ := id h.row
  obtain ⟨g, rfl, hb, _⟩ := h.row.cell (rank_at h.ok.rising hf)
  exact ⟨g, _, rfl, h1, hb⟩
set_option maxRecDepth 100000 in
theorem r_read (r : Nat) (x : DV) (F : Nat → Prop) (n : ByteArray) (w : World) (h : RAt w r x F) :
    Calls Try.prog 29 #[.pointer (some ⟨r, 0, none⟩), .string n] w fun e w' => e = .returned (.tuple #[.string (textOr (readD n x)), .bool (readD n x).isSome]) ∧ Kp No w w' := by
  obtain ⟨v, h, hF⟩ := h
  have hat := r_at r v x n w h
  have H := Lib.hid h
  clear h hF
  cases hoff : x.off with
  | true =>
    have e : readD n x = none := by unfold readD; rw [hoff]; rfl
    rw [e]
    clear e
    go_enter Try.func29, Try.ntmps29
    go_wp2_with fail
    refine hat.mono ?_
    rintro e w1 ⟨rfl, hk⟩
    have HK := Lib.hid hk
    have c2 : w1.cell? ⟨r, 2, none⟩ = some (.bool x.off) := Blk.cell (H.out.keptNo hk).blk rfl
    rw [hoff] at c2
    clear hk hat hoff
    go_wp2_with fail
    go_ret2
    exact ⟨rfl, HK.out⟩
  | false =>
    cases hf : mget n x.files with
    | none =>
      have e : readD n x = none := by unfold readD fileD; rw [hoff, hf]; rfl
      rw [e]
      rw [hf] at hat
      clear e hf
      go_enter Try.func29, Try.ntmps29
      go_wp2_with fail
      refine hat.mono ?_
      rintro e w1 ⟨rfl, hk⟩
      have HK := Lib.hid hk
      have c2 : w1.cell? ⟨r, 2, none⟩ = some (.bool x.off) := Blk.cell (H.out.keptNo hk).blk rfl
      rw [hoff] at c2
      clear hk hat hoff
      go_wp2_with fail
      go_ret2
      exact ⟨rfl, HK.out⟩
    | some f =>
      have e : readD n x = some (bs f.bytes) := by unfold readD fileD; rw [hoff, hf]; rfl
      rw [e]
      rw [hf] at hat
      obtain ⟨g, c, rfl, hc, hrb⟩ := H.out.file hf
      have hp := rank_at H.out.ok.rising hf
      obtain ⟨i, hi⟩ : ∃ i, rank n x.files = i := ⟨_, rfl⟩
      rw [hi] at hat hp
      have hil := (List.getElem?_eq_some_iff.1 hp).1
      have Bi : (i : Int) < (x.files.length : Int) := by omega
      obtain ⟨TL, hTL⟩ : ∃ t, bs (f.bytes.take f.sure) = t := ⟨_, rfl⟩
      obtain ⟨TW, hTW⟩ : ∃ t, bs (f.bytes.drop f.sure) = t := ⟨_, rfl⟩
      have hsum : TL ++ TW = bs f.bytes := by rw [← hTL, ← hTW, bs_append, List.take_append_drop]
      have hno : ¬ 9223372036854775807 < TL.size + TW.size := by
        have h1 : (TL ++ TW).size = TL.size + TW.size := ByteArray.size_append
        rw [hsum, bs_size] at h1
        have := (H.out.ok.at hf).1.2
        omega
      have HS := Lib.hid hsum
      clear e hf hsum hi
      go_enter Try.func29, Try.ntmps29
      go_wp2_with fail
      refine hat.mono ?_
      rintro e w1 ⟨rfl, hk⟩
      have HK := Lib.hid hk
      have h1 := H.out.keptNo hk
      have c2 : w1.cell? ⟨r, 2, none⟩ = some (.bool x.off) := Blk.cell h1.blk rfl
      have c0 : w1.cell? ⟨r, 0, none⟩ = some (.slice (some ⟨g, 0, none⟩) x.files.length c) := Blk.cell h1.blk rfl
      obtain ⟨g', he, _, hcell, _⟩ := h1.row.cell hp
      injection he with he; injection he with he
      subst he
      have c3 : w1.cell? ⟨g, i * 4 + 1, none⟩ = some (.string TL) := by rw [← hTL]; exact hcell 1 _ rfl
      have c4 : w1.cell? ⟨g, i * 4 + 2, none⟩ = some (.string TW) := by rw [← hTW]; exact hcell 2 _ rfl
      rw [hoff] at c2
      clear hk hat hoff h1 hcell hTL hTW hp
      go_wp2_with fail
      go_quiet (fail)
      go_wp2_with fail
      go_ret2
      rw [HS.out]
      exact ⟨rfl, HK.out.drewN _⟩

set_option maxRecDepth 100000 in
theorem r_fuse (r : Nat) (x : DV) (F : Nat → Prop) (b : Int) (w : World) (h : RAt w r x F) (hb : (Lit.int .i64 b).wf = true) :
    Calls Try.prog 68 #[.pointer (some ⟨r, 0, none⟩), .int .i64 b] w fun e w' => e = .returned (.tuple #[]) ∧ RAt w' r (fuseD b x) F ∧ Kp F w w' := by
  obtain ⟨v, h, hF⟩ := h
  have H := Lib.hid h
  have HF := Lib.hid hF
  have c1 : w.cell? ⟨r, 1, none⟩ = some _ := Blk.cell h.blk rfl
  have f1 := Blk.fr h.blk 1
  have HB := Lib.hid hb
  clear h hF hb
  go_enter Try.func68, Try.ntmps68
  go_wp2_with fail
  go_end0
  have hk : Kp (· = r) w (w.setCell ⟨r, 1, none⟩ (.int .i64 (max b (-1)))) := (Kp.refl (· = r) w).setCell (p := ⟨r, 1, none⟩) (fun _ => rfl) _
  exact ⟨rfl, ⟨v, H.out.turned hk (Blk.set H.out.blk 1 _) rfl (fuseD_ok H.out.ok HB.out), HF.out⟩, hk.mono fun k _ e => (HF.out k).2 (.inl e)⟩
set_option maxRecDepth 100000 in
theorem r_new (w : World) : Calls Try.prog 23 #[] w fun e w' => ∃ r F, e = .returned (.pointer (some ⟨r, 0, none⟩)) ∧ RAt w' r newD F ∧ Kp No w w' ∧ ∀ k, F k → w.heap.size ≤ k := by
  go_enter Try.func23, Try.ntmps23
  go_wp2_with fail
  go_ret
  have hb := Blk.new w [.slice none 0 0, .int .i64 (-1), .bool false, .int .i64 0] 102
  exact ⟨w.heap.size, (fun k => k = w.heap.size ∨ rblk (.slice none 0 0) = some k), rfl, ⟨_, ⟨hb, RS.nil _, newD_ok, .inl rfl⟩, fun k => Iff.rfl⟩, (Kp.refl _ _).alloc _, fun k hk => by
    rcases hk with rfl | hk
    · exact Nat.le_refl _
    · cases hk⟩

/-! a row whose cells turn one by one -/
def RSe (w : World) (v : Value) (es : List (List Value)) : Prop :=
  ∃ A c, v = .slice A es.length c ∧ es.length ≤ c ∧ c ≤ maxLen ∧ (0 < es.length → ∃ g cur, A = some ⟨g, 0, none⟩ ∧ w.heap[g]? = some (.cells cur 106 (0, 0)) ∧
    ∀ (i : Nat) e, es[i]? = some e → e.length = 4 ∧ ∀ (j : Nat) u, e[j]? = some u → cur[i * 4 + j]? = some u)
theorem RS.toE {w : World} {v : Value} {l : List (ByteArray × FV)} (h : RS w v l) : RSe w v (l.map enc4) := by
  obtain ⟨A, c, rfl, h1, h2, h3⟩ := h
  refine ⟨A, c, by rw [List.length_map], by rw [List.length_map]; exact h1, h2, fun h0 => ?_⟩
  rw [List.length_map] at h0
  obtain ⟨g, cur, h4, h5, h6⟩ := h3 h0
  refine ⟨g, cur, h4, h5, fun i e he => ?_⟩
  rw [List.getElem?_map, Option.map_eq_some_iff] at he
  obtain ⟨p, hp, rfl⟩ := he
  exact ⟨rfl, h6 i p hp⟩
theorem RS.ofE {w : World} {v : Value} {l : List (ByteArray × FV)} (h : RSe w v (l.map enc4)) : RS w v l := by
  obtain ⟨A, c, rfl, h1, h2, h3⟩ := h
  rw [List.length_map] at h1 h3
  refine ⟨A, c, by rw [List.length_map], h1, h2, fun h0 => ?_⟩
  obtain ⟨g, cur, h4, h5, h6⟩ := h3 h0
  exact ⟨g, cur, h4, h5, fun i p hp => (h6 i (enc4 p) (by rw [List.getElem?_map, hp]; rfl)).2⟩
theorem RSe.set {w : World} {g n c : Nat} {es : List (List Value)} (h : RSe w (.slice (some ⟨g, 0, none⟩) n c) es) {i j : Nat} {e : List Value} (hi : es[i]? = some e) {u : Value} (hj : j < 4) : RSe (w.setCell ⟨g, i * 4 + j, none⟩ u) (.slice (some ⟨g, 0, none⟩) n c) (es.set i (e.set j u)) := by
  have hil := (List.getElem?_eq_some_iff.1 hi).1
  obtain ⟨A, c', he, h1, h2, h3⟩ := h
  injection he with e1 e2 e3
  subst e1 e2 e3
  obtain ⟨g', cur, he, h5, h6⟩ := h3 (by omega)
  injection he with he
  injection he with he
  subst he
  refine ⟨_, _, by rw [List.length_set], by rw [List.length_set]; exact h1, h2, fun _ => ⟨g, cur.setIfInBounds (i * 4 + j) u, rfl, ?_, ?_⟩⟩
  · simp [World.setCell, Array.getElem?_modify, h5, Array.setIfInBounds_def]
    try omega
  · intro i' e' hi'
    rw [List.getElem?_set] at hi'
    by_cases ei : i = i'
    · subst ei
      rw [if_pos rfl, if_pos hil] at hi'
      injection hi' with hi'
      subst hi'
      obtain ⟨h7, h8⟩ := h6 i e hi
      refine ⟨by rw [List.length_set]; exact h7, fun j' u' hu' => ?_⟩
      have hj' : j' < 4 := by have := (List.getElem?_eq_some_iff.1 hu').1; rw [List.length_set, h7] at this; exact this
      rw [Array.getElem?_setIfInBounds]
      rw [List.getElem?_set] at hu'
      by_cases ej : j = j'
      · subst ej
        rw [if_pos rfl, if_pos (by rw [h7]; exact hj)] at hu'
        rw [if_pos rfl]
        have hin : i * 4 + j < cur.size := by
          obtain ⟨u0, hu0⟩ : ∃ u0, e[j]? = some u0 := ⟨_, List.getElem?_eq_getElem (by rw [h7]; exact hj)⟩
          exact (Array.getElem?_eq_some_iff.1 (h8 j u0 hu0)).1
        rw [if_pos hin]; exact hu'
      · rw [if_neg ej] at hu'
        rw [if_neg (by omega)]
        exact h8 j' u' hu'
    · rw [if_neg ei] at hi'
      obtain ⟨h7, h8⟩ := h6 i' e' hi'
      refine ⟨h7, fun j' u' hu' => ?_⟩
      have hj' : j' < 4 := by have := (List.getElem?_eq_some_iff.1 hu').1; rw [h7] at this; exact this
      rw [Array.getElem?_setIfInBounds, if_neg (by omega)]
      exact h8 j' u' hu'
end Go.Proofs.Ytflodiljgphkdaa
