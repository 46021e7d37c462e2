/-
  Put together: Disk10, Range, Disk11, Disk12, DiskN.
-/
import Derived.Test.YtflodiljgphkdaaGreatDisk9
import Derived.Test.YtflodiljgphkdaaGreatM1
import Derived.Maps.RangeRun
import Derived.Maps.RangeWalk
import Derived.Test.YtflodiljgphkdaaGreatDisk6
namespace Go.Proofs.YtflodiljgphkdaaGreat
section
open Go.RowKit Go.ChangeShapes Go.WideShapes Go.ChangeAt

theorem el_names : Elem Tryz.prog 22 9 1 16 := Elem.of Tryz.underlying22 (z := .string ByteArray.empty) (by kernel_rfl) rfl (by decide)
theorem DiskIn.keys {w : World} {d m : Nat} {l : List (ByteArray × Value)} {L : Loc} {x : DV} (h : DiskIn w d m l L x) : sortedN (l.map (·.1)) = x.files.map (·.1) ∧ (∀ p ∈ l, p.1.size ≤ 80) ∧ l.length = x.files.length := by
  have hnd : (l.map (·.1)).Nodup := by obtain ⟨_, _, _, _, hnd, _⟩ := h.map; exact hnd
  have hp := perm_names hnd h.ok.rising.nodup h.names
  refine ⟨sortedN_eq hp h.ok.rising.names, fun p hpl => ?_, by have := hp.length_eq; simpa using this⟩
  have h1 : p.1 ∈ x.files.map (·.1) := hp.mem_iff.1 (List.mem_map.2 ⟨p, hpl, rfl⟩)
  obtain ⟨q, hq, he⟩ := List.mem_map.1 h1
  rw [← he]
  exact (h.ok.file q hq).2

theorem filter_take {p : ByteArray → Bool} {l : List ByteArray} {i : Nat} {y : ByteArray} (h : l[i]? = some y) : (l.take (i + 1)).filter p = (l.take i).filter p ++ (if p y then [y] else []) := by
  obtain ⟨hi, rfl⟩ := List.getElem?_eq_some_iff.1 h
  rw [List.take_succ_eq_append_getElem hi, List.filter_append]
  congr 1
  simp [List.filter_cons]

set_option maxRecDepth 100000 in
set_option maxHeartbeats 1000000 in
theorem d_names (d : Nat) (x : DV) (F : Nat → Prop) (p : ByteArray) (w : World) (h : DiskAt w d x F) (hn : x.files.length ≤ 1000000) :
    Calls Tryz.prog 27 #[.pointer (some ⟨d, 0, none⟩), .string p] w fun e w' => ∃ A c, e = .returned (.slice A (namesD p x).length c) ∧ Own Rp.str w' No w.heap.size 9 (.slice A (namesD p x).length c) (namesD p x) ∧ Kp No w w' := by
  obtain ⟨m, l, L, h, hF⟩ := h
  have H := Lib.hid h
  clear hF
  have d2 : w.cell? ⟨d, 2, none⟩ = some (.bool x.off) := Blk.cell H.out.blk rfl
  have d0 : w.cell? ⟨d, 0, none⟩ = some _ := Blk.cell H.out.blk rfl
  unfold namesD
  cases hoff : x.off with
  | true =>
    rw [hoff] at d2
    clear d0 hoff
    simp only [if_true]
    go_enter Tryz.func27, Tryz.ntmps27
    go_wp2_with fail
    go_ret
    exact ⟨none, 0, rfl, Own.nil _ _ _ _ _, Kp.refl _ _⟩
  | false =>
    rw [hoff] at d2
    simp only [Bool.false_eq_true, if_false]
    clear hoff
    obtain ⟨hk1, hk2, hk3⟩ := h.keys
    obtain ⟨N, hN⟩ : ∃ N, x.files.map (·.1) = N := ⟨_, rfl⟩
    rw [hN] at hk1 ⊢
    have hNl : N.length ≤ 1000000 := by rw [← hN, List.length_map]; exact hn
    have hN80 : ∀ (j : Nat) y, N[j]? = some y → y.size ≤ 80 := by
      intro j y hj
      rw [← hk1] at hj
      have := mem_sortedN.1 (List.mem_of_getElem? hj)
      obtain ⟨q, hq, rfl⟩ := List.mem_map.1 this
      exact hk2 q hq
    have hks := c_keys_file m w
    have hso := c_sorted_file m l w h.map (fun p hp => by have := hk2 p hp; unfold maxLen; omega) (by omega)
    rw [hk1] at hso
    have HK8 := Lib.hid hN80
    clear hN hn hk1 hk2 hk3 h hN80
    go_enter Tryz.func27, Tryz.ntmps27
    go_wp2_with fail
    refine hks.mono ?_
    rintro e w1 ⟨rfl, rfl⟩
    clear hks
    go_wp2_with fail
    refine hso.mono ?_
    rintro e w2 ⟨An, cn, rfl, hown, hk2⟩
    have HN := Lib.hid hown.readFrom
    have HK2 := Lib.hid hk2
    have hs2 := hk2.size
    clear hso hown hk2 d0 d2
    go_wp2_with fail
    go_loopw [5, 23] (fun ov iv wr => ∃ (i : Nat) (A : Option Addr) (c : Nat), i ≤ N.length ∧ iv = .int .i64 (i : Int) ∧ ov = .slice A ((N.take i).filter (prefixed p)).length c ∧ Own Rp.str wr No w2.heap.size 9 (.slice A ((N.take i).filter (prefixed p)).length c) ((N.take i).filter (prefixed p)) ∧ Kp No w2 wr) (fun _ iv _ => N.length - (intOf iv).toNat)
    case atStart => exact ⟨0, none, 0, Nat.zero_le _, rfl, rfl, Own.nil _ _ _ _ _, Kp.refl _ _⟩
    case round =>
      obtain ⟨i, A, c, hi, rfl, rfl, hown, hk⟩ := hrel
      have HO := Lib.hid hown
      have HK := Lib.hid hk
      clear hown hk
      by_cases hlt : i < N.length
      · have hli : (i : Int) < (N.length : Int) := by omega
        obtain ⟨y, hy⟩ : ∃ y, N[i]? = some y := ⟨_, List.getElem?_eq_getElem hlt⟩
        have hst := filter_take (p := prefixed p) hy
        have HN' := Rp.str.slice.keptNo HN.out HK.out
        obtain ⟨ad, rfl, _, hcell, _⟩ := Rp.at_str HN' hy
        have HY8 := Lib.hid (HK8.out i y hy)
        clear hy HN'
        have hpre := s_hasPrefix y p wr
        obtain ⟨D, hD⟩ : ∃ D, (N.take i).filter (prefixed p) = D := ⟨_, rfl⟩
        rw [hD] at HO hst
        rw [hD]
        have hDl : D.length ≤ 1000000 := by rw [← hD]; exact Nat.le_trans (List.length_filter_le _ _) (by rw [List.length_take]; omega)
        cases hpy : prefixed p y with
        | true =>
          rw [hpy] at hpre hst
          simp only [if_true] at hst
          have HST := Lib.hid hst
          clear hst hD hpy
          go_wp2_with fail
          refine hpre.mono ?_
          rintro e w3 ⟨rfl, rfl⟩
          clear hpre hcell
          go_wp2_with (at_builtin; refine wpList_append_lit Rp.str_by rfl _ (.tmp 30) (.tmp 32) 22 rfl w2.heap.size 9 16 el_names (.slice A D.length c) D rfl No ?d0 w3.heap.size [y] rfl _ _ _ (heap_alloc_new _ _) ?d1 ?d2 ?d3 ?d4 ?d5 ?d6 ?_)
          case d0 => exact HO.out.alloc _
          case d2 => intro a ha; simp only [List.mem_cons, List.not_mem_nil, or_false] at ha; subst ha; have := HY8.out; unfold maxLen; omega
          case d3 => simp [maxLen]; omega
          case d4 => simp; omega
          case d5 => have := HK.out.size; simp; omega
          case d6 => intro h; have := (HO.out.lt _ h).2; omega
          intro A3 c3 w6 hown hk6
          have HO6 := Lib.hid hown
          have HK6 := Lib.hid ((HK.out.alloc _).trans hk6 (fun i hi hv => absurd (HO.out.lt i hv).1 (by omega)))
          clear hown hk6 HO HK
          go_wp2_with fail
          go_roundw
          case rel => exact ⟨i + 1, A3, c3, by omega, by go_num, by rw [HST.out]; simp, by rw [HST.out, show (D ++ [y]).length = D.length + 1 by simp]; exact HO6.out, HK6.out⟩
          case measure => simp [intOf]; omega
        | false =>
          rw [hpy] at hpre hst
          simp only [Bool.false_eq_true, if_false, List.append_nil] at hst
          have HST := Lib.hid hst
          clear hst hD hpy
          go_wp2_with fail
          refine hpre.mono ?_
          rintro e w3 ⟨rfl, rfl⟩
          clear hpre hcell
          go_wp2_with fail
          go_roundw
          case rel => exact ⟨i + 1, A, c, by omega, by go_num, by rw [HST.out], by rw [HST.out]; exact HO.out, HK.out⟩
          case measure => simp [intOf]; omega
      · obtain rfl : i = N.length := by omega
        rw [List.take_length] at HO
        rw [List.take_length]
        go_wp2_with fail
        go_ret
        exact ⟨A, c, rfl, HO.out.mono (by omega) (fun _ h => h), HK2.out.trans' HK.out⟩
end

section
open Go.RowKit Go.ChangeShapes Go.WideShapes Go.ChangeAt
variable {κ : Type} [DecidableEq κ] {P : Program} {T K E : TypeId} {enc : κ → Value} {w w' : World} {b r : Nat} {l todo : List (κ × Value)}

/-- Block r goes over the map b, whose entries are l; 'todo' is still to come. -/
def Ranges (w : World) (b r : Nat) (enc : κ → Value) (l todo : List (κ × Value)) : Prop :=
  ∃ es clock since seen c0, w.heap[b]? = some (.map es clock) ∧ es.toList.map (fun e => (e.key, e.val)) = l.map (fun p => (enc p.1, p.2)) ∧ (l.map (·.1)).Nodup ∧ (∀ e ∈ es, e.born < clock) ∧ (es.toList.map (·.born)).Nodup ∧
    w.heap[r]? = some (.mapIter (some b) since seen c0) ∧ (∀ x ∈ es.toList, x.born < since) ∧ since ≤ c0 ∧ since ≤ clock ∧ (leftOf es seen).toList.map (fun e => (e.key, e.val)) = todo.map (fun p => (enc p.1, p.2))

omit [DecidableEq κ] in
theorem Ranges.map (h : Ranges w b r enc l todo) : MapOf w b enc l := by
  obtain ⟨es, clock, since, seen, c0, h1, h2, h3, h4, h5, _⟩ := h
  exact ⟨es, clock, h1, h2, h3, h4, h5⟩
omit [DecidableEq κ] in
theorem Ranges.lt (h : Ranges w b r enc l todo) : r < w.heap.size := by
  obtain ⟨es, clock, since, seen, c0, _, _, _, _, _, h6, _⟩ := h
  exact (Array.getElem?_eq_some_iff.1 h6).1
theorem Ranges.kept {S : Nat → Prop} (h : Ranges w b r enc l todo) (hk : Kp S w w') (hb : ¬ S b) (hr : ¬ S r) : Ranges w' b r enc l todo := by
  have h1 := h.map.lt
  have h2 := h.lt
  obtain ⟨es, clock, since, seen, c0, g1, g2, g3, g4, g5, g6, g7⟩ := h
  exact ⟨es, clock, since, seen, c0, (hk.block b h1 hb).trans g1, g2, g3, g4, g5, (hk.block r h2 hr).trans g6, g7⟩

omit [DecidableEq κ] in
theorem Ranges.left (h : Ranges w b r enc l todo) : w.rangeLeft b r = todo.length := by
  obtain ⟨es, clock, since, seen, c0, hb, _, _, _, _, hr, _, _, _, hl⟩ := h
  simp only [World.rangeLeft, hb, hr]
  have := congrArg List.length hl
  rwa [List.length_map, List.length_map, Array.length_toList] at this
/-- range m -/
theorem MapOf.range (ht : P.underlying T = some (.map K E)) (h : MapOf w b enc l) : ∃ w', (Instr.range T (.map (some b))).run P w = .ok (.pointer (some ⟨w.heap.size, 0, none⟩)) w' ∧ Ranges w' b w.heap.size enc l l ∧ Kp No w w' ∧ w'.heap.size = w.heap.size + 1 := by
  have hlt := h.lt
  obtain ⟨es, clock, hb, h1, h2, h3, h4⟩ := h
  refine ⟨_, run_range_map w T K E b es clock ht hb, ⟨es, clock, clock, #[], clock, ?_, h1, h2, h3, h4, heap_alloc_new w _, fun x hx => h3 x (Array.mem_toList_iff.1 hx), Nat.le_refl _, Nat.le_refl _, ?_⟩, (Kp.refl _ _).alloc _, by simp⟩
  · rw [heap_alloc_old w _ hlt]; exact hb
  · rw [← h1]; unfold leftOf; rw [Array.toList_filter, List.filter_eq_self.2 (by simp)]

theorem filter_one {l1 l2 : List MapEntry} {e : MapEntry} (h : ((l1 ++ e :: l2).map (·.born)).Nodup) : (l1 ++ e :: l2).filter (fun x => x.born != e.born) = l1 ++ l2 := by
  rw [List.map_append, List.map_cons, List.nodup_append] at h
  obtain ⟨h1, h2, h3⟩ := h
  rw [List.nodup_cons] at h2
  rw [List.filter_append, List.filter_cons]
  simp only [bne_self_eq_false, Bool.false_eq_true, if_false]
  rw [List.filter_eq_self.2, List.filter_eq_self.2]
  · intro x hx
    simp only [bne_iff_ne, ne_eq]
    intro e1
    exact h2.1 (by rw [← e1]; exact List.mem_map.2 ⟨x, hx, rfl⟩)
  · intro x hx
    simp only [bne_iff_ne, ne_eq]
    exact h3 _ (List.mem_map.2 ⟨x, hx, rfl⟩) _ (List.mem_cons_self ..)
theorem leftOf_push (es : Array MapEntry) (seen : Array Nat) (n : Nat) : (leftOf es (seen.push n)).toList = (leftOf es seen).toList.filter (fun x => x.born != n) := by
  unfold leftOf
  rw [Array.toList_filter, Array.toList_filter, List.filter_filter]
  refine List.filter_congr fun x _ => ?_
  by_cases h : x.born = n
  · subst h; simp
  · simp [h]

omit [DecidableEq κ] in
/-- one step -/
theorem Ranges.next (h : Ranges w b r enc l todo) (ty : TypeId) :
    (todo = [] ∧ (Instr.next (.pointer (some ⟨r, 0, none⟩)) false ty).run P w = .ok (.tuple #[.bool false]) w) ∨
    ∃ k v t1 t2 w', todo = t1 ++ (k, v) :: t2 ∧ (Instr.next (.pointer (some ⟨r, 0, none⟩)) false ty).run P w = .ok (.tuple #[.bool true, enc k, v]) w' ∧ Ranges w' b r enc l (t1 ++ t2) ∧ Kp (· = r) w w' ∧ w'.heap.size = w.heap.size ∧
      (Instr.entry (.pointer (some ⟨r, 0, none⟩))).run P w' = .ok (.tuple #[enc k, v]) w' := by
  have hne : b ≠ r := by
    rintro rfl
    obtain ⟨es, clock, since, seen, c0, g1, _, _, _, _, g6, _⟩ := h
    rw [g1] at g6; cases g6
  have hrl := h.lt
  obtain ⟨es, clock, since, seen, c0, hb, h1, h2, h3, h4, hr, hold, hsc, hcl, hleft⟩ := h
  rcases run_next_at (P := P) w ty r b since c0 seen es clock hr hb hold hsc with ⟨h0, hrun⟩ | ⟨e, he, w1, hal, hrun⟩
  · left
    refine ⟨?_, hrun⟩
    have := congrArg List.length hleft
    rw [List.length_map, List.length_map, Array.length_toList, h0] at this
    exact List.eq_nil_of_length_eq_zero this.symm
  · right
    obtain ⟨L1, L2, hL⟩ := List.append_of_mem he
    rw [hL, List.map_append, List.map_cons] at hleft
    obtain ⟨t1, t3, ht, ht1, ht3⟩ := List.map_eq_append_iff.1 hleft.symm
    obtain ⟨p, t2, rfl, hp, ht2⟩ := List.map_eq_cons_iff.1 ht3
    obtain ⟨k, v⟩ := p
    simp only [Prod.mk.injEq] at hp
    have hmem : e ∈ es.toList := by unfold leftOf at he; rw [Array.toList_filter, List.mem_filter] at he; exact he.1
    have hw1 : w1.heap = w.heap := by rcases hal with rfl | rfl <;> rfl
    have hkp : Kp (· = r) w (Go.ChangeMaps.setBlock w1 r (.mapIter (some b) since (seen.push e.born) clock)) := by
      have hk1 : Kp (· = r) w w1 := by rcases hal with rfl | rfl
                                       · exact Kp.refl _ _
                                       · exact (Kp.refl _ _).drew
      refine hk1.trans' ⟨rfl, rfl, by simp [Go.ChangeMaps.setBlock], fun i hi hn => ?_⟩
      show (w1.heap.setIfInBounds r _)[i]? = _
      rw [Array.getElem?_setIfInBounds_ne (fun e => hn e.symm)]
    have hr2 : (Go.ChangeMaps.setBlock w1 r (.mapIter (some b) since (seen.push e.born) clock)).heap[r]? = some (.mapIter (some b) since (seen.push e.born) clock) := by
      show (w1.heap.setIfInBounds r _)[r]? = _
      rw [hw1]; simp [hrl]
    have hb2 : (Go.ChangeMaps.setBlock w1 r (.mapIter (some b) since (seen.push e.born) clock)).heap[b]? = some (.map es clock) := (hkp.block b (Array.getElem?_eq_some_iff.1 hb).1 hne).trans hb
    have hen := run_entry_at (P := P) _ r b since seen es clock e hr2 hb2 hmem h4
    rw [← hp.1, ← hp.2] at hrun hen
    refine ⟨k, v, t1, t2, _, ht, hrun, ⟨es, clock, since, seen.push e.born, clock, hb2, h1, h2, h3, h4, hr2, hold, hcl, hcl, ?_⟩, hkp, by show (w1.heap.setIfInBounds r _).size = _; rw [hw1]; simp, hen⟩
    · rw [leftOf_push, hL, filter_one (e := e), List.map_append, List.map_append, ht1, ht2]
      have hs : (leftOf es seen).toList.Sublist es.toList := by unfold leftOf; rw [Array.toList_filter]; exact List.filter_sublist
      rw [← hL]
      exact h4.sublist (hs.map _)
end

section
open Go.RowKit Go.ChangeShapes Go.WideShapes Go.ChangeAt

section
variable {ν : Type}
theorem ins_mid {n : ByteArray} {f g : ν} {rest : List (ByteArray × ν)} : ∀ {done : List (ByteArray × ν)}, Rising (done ++ (n, f) :: rest) → ins n g (done ++ (n, f) :: rest) = done ++ (n, g) :: rest
  | [], _ => by simp [ins]
  | (k, y) :: done, h => by
    unfold Rising at h
    rw [List.cons_append, List.pairwise_cons] at h
    have hk : nlt k n := h.1 (n, f) (by simp)
    show ins n g ((k, y) :: (done ++ (n, f) :: rest)) = _
    unfold ins
    rw [if_neg (nlt_ne hk).symm, if_neg (nlt_asymm hk), ins_mid h.2]; rfl
theorem mdel_mid {n : ByteArray} {f : ν} {rest : List (ByteArray × ν)} : ∀ {done : List (ByteArray × ν)}, Rising (done ++ (n, f) :: rest) → mdel n (done ++ (n, f) :: rest) = done ++ rest
  | [], _ => by simp [mdel]
  | (k, y) :: done, h => by
    unfold Rising at h
    rw [List.cons_append, List.pairwise_cons] at h
    have hk : nlt k n := h.1 (n, f) (by simp)
    show mdel n ((k, y) :: (done ++ (n, f) :: rest)) = _
    unfold mdel
    rw [if_neg (nlt_ne hk).symm, mdel_mid h.2]; rfl
theorem mget_mid {n : ByteArray} {f : ν} {done rest : List (ByteArray × ν)} (h : Rising (done ++ (n, f) :: rest)) : mget n (done ++ (n, f) :: rest) = some f := mget_of_mem h.nodup (by simp)
end

theorem addr_add0 (a : Addr) : a.add 0 = a := by unfold Addr.add; split <;> simp_all
theorem vblk_len (A : Option Addr) (n n' c : Nat) : vblk (.slice A n c) = vblk (.slice A n' c) := by cases A <;> rfl
theorem ks_tail {w : World} {S : Nat → Prop} {ak ad : Addr} {c c2 : Nat} {ks : List Int} (h : (Rp.int .i64).slice.R w S [.slice (some ak) ks.length c] ks) (h0 : 0 < ks.length) (hc : (c = 1 ∧ c2 = 0) ∨ (ad = ak.add 1 ∧ c2 = c - 1)) :
    (Rp.int .i64).slice.R w S [.slice (some ad) ks.tail.length c2] ks.tail := by
  rcases hc with ⟨rfl, rfl⟩ | ⟨rfl, rfl⟩
  · have h1 : ks.length ≤ 1 := by obtain ⟨_, _, he, h1, _⟩ := h; injection he with he; injection he with _ _ he; subst he; exact h1
    have : ks.tail = [] := List.eq_nil_of_length_eq_zero (by rw [List.length_tail]; omega)
    rw [this]
    exact ⟨_, _, rfl, Nat.le_refl _, Nat.zero_le _, fun h => absurd h (by simp)⟩
  · have := Rp.cut h (k := 1) (by omega)
    simpa [Rp.int] using this
theorem Rp.cap_le {α : Type} {E : Rp α} {w : World} {S : Nat → Prop} {A : Option Addr} {n c : Nat} {l : List α} (h : E.slice.R w S [.slice A n c] l) : l.length ≤ c ∧ c ≤ maxLen := by
  obtain ⟨A', c', he, h1, h2, _⟩ := h
  injection he with he
  injection he with _ _ he
  subst he
  exact ⟨h1, h2⟩
/-- The loop over the names, so far: what was done with the first i files; the rest stands as it stood; so many keeps are left. -/
def CrRel (w : World) (d m : Nat) (x : DV) (F : Nat → Prop) (ks0 : List Int) (i : Nat) (ks : List Int) (wr : World) : Prop :=
  ∃ l L done, DiskIn wr d m l L { x with files := done ++ x.files.drop i } ∧ crashF x.files ks0 = done ++ crashF (x.files.drop i) ks ∧ Kp F w wr ∧ ∀ k, DF d m L { x with files := done ++ x.files.drop i } k → F k ∨ w.heap.size ≤ k
theorem CrRel.step {w : World} {d m : Nat} {x : DV} {F : Nat → Prop} {ks0 ks : List Int} {i : Nat} {n : ByteArray} {f : FV} (hi : x.files[i]? = some (n, f)) {l : List (ByteArray × Value)} {L : Loc} {done : List (ByteArray × FV)} {w2 : World} {g : FV}
    (h : DiskIn w2 d m l L { x with files := done ++ (n, g) :: x.files.drop (i + 1) }) (hc : crashF x.files ks0 = done ++ crashF (x.files.drop i) ks) (hg : g = crash1 f (ks.headD 0)) (ho : g.old = true) (hk : Kp F w w2) (hn : ∀ k, DF d m L { x with files := done ++ (n, g) :: x.files.drop (i + 1) } k → F k ∨ w.heap.size ≤ k) :
    CrRel w d m x F ks0 (i + 1) (nextK f ks) w2 := by
  obtain ⟨hlt, he⟩ := List.getElem?_eq_some_iff.1 hi
  refine ⟨l, L, done ++ [(n, g)], ?_, ?_, hk, ?_⟩
  · rw [List.append_assoc]; exact h
  · rw [hc, List.drop_eq_getElem_cons hlt, he, List.append_assoc]
    show _ = done ++ ([(n, g)] ++ crashF (x.files.drop (i + 1)) (nextK f ks))
    congr 1
    show consIf n (crash1 f (ks.headD 0)) _ = _
    rw [← hg]
    unfold consIf
    rw [if_pos ho]; rfl
  · rw [List.append_assoc]; exact hn
theorem CrRel.gone {w : World} {d m : Nat} {x : DV} {F : Nat → Prop} {ks0 ks : List Int} {i : Nat} {n : ByteArray} {f : FV} (hi : x.files[i]? = some (n, f)) {l : List (ByteArray × Value)} {L : Loc} {done : List (ByteArray × FV)} {w2 w3 : World} {g : FV}
    (h : DiskIn w2 d m l L { x with files := done ++ (n, g) :: x.files.drop (i + 1) }) (hm : MapOf w3 m Value.string (mdel n l)) (hk3 : Kp (· = m) w2 w3) (hc : crashF x.files ks0 = done ++ crashF (x.files.drop i) ks) (hg : g = crash1 f (ks.headD 0)) (ho : g.old = false) (hk : Kp F w w2) (hFm : F m)
    (hn : ∀ k, DF d m L { x with files := done ++ (n, g) :: x.files.drop (i + 1) } k → F k ∨ w.heap.size ≤ k) : CrRel w d m x F ks0 (i + 1) (nextK f ks) w3 := by
  obtain ⟨hlt, he⟩ := List.getElem?_eq_some_iff.1 hi
  have hd := h.delete n hm hk3
  have hft := h.delete_foot n
  have e1 : mdel n (done ++ (n, g) :: x.files.drop (i + 1)) = done ++ x.files.drop (i + 1) := mdel_mid h.ok.rising
  simp only [e1] at hd hft
  refine ⟨_, L, done, hd, ?_, hk.trans' (hk3.mono fun k _ e => by rw [e]; exact hFm), fun k hk => hn k (hft k hk)⟩
  rw [hc, List.drop_eq_getElem_cons hlt, he]
  congr 1
  show consIf n (crash1 f (ks.headD 0)) _ = _
  rw [← hg]
  unfold consIf
  rw [if_neg (by rw [ho]; simp)]

theorem CrRel.turned {w2 wr w5 : World} {d m : Nat} {x : DV} {F : Nat → Prop} {n : ByteArray} {f g : FV} {l : List (ByteArray × Value)} {L : Loc} {done rest : List (ByteArray × FV)} (hd : DiskIn wr d m l L { x with files := done ++ (n, f) :: rest }) (hu : FileUp wr w5 (L n).1 (L n).2 g) (hog : OkF g) (hkp : Kp F w2 wr)
    (hft : ∀ k, DF d m L { x with files := done ++ (n, f) :: rest } k → F k ∨ w2.heap.size ≤ k) : ∃ L5, DiskIn w5 d m l L5 { x with files := done ++ (n, g) :: rest } ∧ Kp F w2 w5 ∧ ∀ k, DF d m L5 { x with files := done ++ (n, g) :: rest } k → F k ∨ w2.heap.size ≤ k := by
  obtain ⟨L5, h1, h2, h3⟩ := hd.turn (mget_mid hd.ok.rising) hu hog
  have e1 : ins n g (done ++ (n, f) :: rest) = done ++ (n, g) :: rest := ins_mid hd.ok.rising
  simp only [e1] at h1 h3
  refine ⟨L5, h1, hkp.trans h2 (fun k hk hf => (hft k hf).elim id (fun h => by omega)), fun k hk => ?_⟩
  rcases h3 k hk with h4 | h4
  · exact hft k h4
  · have := hkp.size; right; omega
end

section
open Go.RowKit Go.ChangeShapes Go.WideShapes Go.ChangeAt

theorem rising_ext {ν : Type} : ∀ {l m : List (ByteArray × ν)}, Rising l → Rising m → (∀ n, mget n l = mget n m) → l = m
  | [], [], _, _, _ => rfl
  | [], (k, y) :: m, _, _, h => by have := h k; simp [mget] at this
  | (k, y) :: l, [], _, _, h => by have := h k; simp [mget] at this
  | (k, y) :: l, (k', y') :: m, hl, hm, h => by
    have hl' := hl
    have hm' := hm
    unfold Rising at hl hm
    rw [List.pairwise_cons] at hl hm
    have hkk : k = k' := by
      refine Classical.byContradiction fun hne => ?_
      have h1 := h k
      have h2 := h k'
      simp only [mget, if_true, if_neg hne, if_neg (Ne.symm hne)] at h1 h2
      have h3 := hm.1 _ (mem_of_mget h1.symm)
      have h4 := hl.1 _ (mem_of_mget h2)
      exact nlt_asymm h3 h4
    subst hkk
    have h1 := h k
    simp only [mget, if_true, Option.some.injEq] at h1
    subst h1
    congr 1
    refine rising_ext hl.2 hm.2 fun n => ?_
    by_cases hn : n = k
    · subst hn
      have e1 : mget n l = none := (mget_none_iff _ _).2 fun hc => by obtain ⟨p, hp, e⟩ := List.mem_map.1 hc; exact nlt_irrefl n (e ▸ hl.1 p hp)
      have e2 : mget n m = none := (mget_none_iff _ _).2 fun hc => by obtain ⟨p, hp, e⟩ := List.mem_map.1 hc; exact nlt_irrefl n (e ▸ hm.1 p hp)
      rw [e1, e2]
    · have := h n
      simpa only [mget, if_neg hn] using this

open Classical in
/-- The loop so far: what is no longer to come has been copied. -/
def CpRel (w : World) (m r c cm : Nat) (l : List (ByteArray × Value)) (x : DV) (todo : List (ByteArray × Value)) (wr : World) : Prop :=
  Ranges wr m r Value.string l todo ∧ (∀ p ∈ todo, p ∈ l) ∧ (todo.map (·.1)).Nodup ∧ Kp No w wr ∧ ∃ lc Lc part, DiskIn wr c cm lc Lc { x with files := part } ∧ (∀ n, mget n part = if n ∈ todo.map (fun p : ByteArray × Value => p.1) then none else mget n x.files) ∧ ∀ k, DF c cm Lc { x with files := part } k → w.heap.size ≤ k
end

section
open Go.RowKit Go.ChangeShapes Go.WideShapes Go.ChangeAt

/-- All rows but those of a drive's own types are as they were. -/
def KpT (w w' : World) : Prop := ∀ (g : Nat) cs (e : TypeId) fr, e ≠ 66 → e ≠ 97 → e ≠ 5 → w.heap[g]? = some (.cells cs e fr) → w'.heap[g]? = some (.cells cs e fr)
theorem KpT.refl (w : World) : KpT w w := fun _ _ _ _ _ _ _ h => h
theorem KpT.trans {a b c : World} (h : KpT a b) (k : KpT b c) : KpT a c := fun g cs e fr h1 h2 h3 h4 => k g cs e fr h1 h2 h3 (h g cs e fr h1 h2 h3 h4)
theorem KpT.ofNo {w w' : World} (h : Kp No w w') : KpT w w' := fun g _ _ _ _ _ _ h4 => (h.block g (Array.getElem?_eq_some_iff.1 h4).1 (fun x => x)).trans h4
theorem KpT.blk {w w' : World} (h : KpT w w') {g : Nat} {e : TypeId} {vs : List Value} (hb : Blk w g e vs) (h1 : e ≠ 66) (h2 : e ≠ 97) (h3 : e ≠ 5) : Blk w' g e vs := h g _ e _ h1 h2 h3 hb
theorem DiskAt.types {w : World} {d : Nat} {x : DV} {F : Nat → Prop} (h : DiskAt w d x F) {k : Nat} (hk : F k) {cs : Array Value} {e : TypeId} {fr : Nat × Nat} (hb : w.heap[k]? = some (.cells cs e fr)) : e = 66 ∨ e = 97 ∨ e = 5 := by
  obtain ⟨m, l, L, h, hF⟩ := h
  rcases (hF k).1 hk with rfl | rfl | ⟨n, f, hf, rfl | hv⟩
  · have h1 : w.heap[k]? = some (.cells _ 66 (0, 0)) := h.blk
    rw [h1] at hb; injection hb with hb; injection hb with _ hb; exact .inl hb.symm
  · obtain ⟨es, c, h1, _⟩ := h.map
    rw [h1] at hb; cases hb
  · have h1 : w.heap[(L n).1]? = some (.cells _ 97 (0, 0)) := (h.file n f hf).1
    rw [h1] at hb; injection hb with hb; injection hb with _ hb; exact .inr (.inl hb.symm)
  · obtain ⟨cs', h1⟩ := (h.file n f hf).2.block hv
    rw [h1] at hb; injection hb with hb; injection hb with _ hb; exact .inr (.inr hb.symm)
theorem KpT.of {w w' : World} {d : Nat} {x : DV} {F : Nat → Prop} (h : DiskAt w d x F) (hk : Kp F w w') : KpT w w' := fun g _ _ _ h1 h2 h3 h4 => (hk.block g (Array.getElem?_eq_some_iff.1 h4).1 (fun hf => by
  rcases h.types hf h4 with h | h | h
  · exact h1 h
  · exact h2 h
  · exact h3 h)).trans h4
/-- A drive that is new since w0; nothing of before has turned. -/
def DNew (w0 w : World) (d : Nat) (x : DV) : Prop := ∃ F, DiskAt w d x F ∧ Kp No w0 w ∧ ∀ k, F k → w0.heap.size ≤ k
namespace DNew
variable {w0 w w' : World} {d : Nat} {x y : DV}
theorem kp (h : DNew w0 w d x) : Kp No w0 w := by obtain ⟨_, _, h, _⟩ := h; exact h
theorem ok (h : DNew w0 w d x) : OkD x := by obtain ⟨_, h, _⟩ := h; exact h.ok
theorem kept (h : DNew w0 w d x) (hk : Kp No w w') : DNew w0 w' d x := by
  obtain ⟨F, h1, h2, h3⟩ := h
  exact ⟨F, h1.keptNo hk, h2.trans' hk, h3⟩
theorem step (h : ∃ F, DiskAt w d x F ∧ Kp No w0 w ∧ (∀ k, F k → w0.heap.size ≤ k) ∧ ∃ F', DiskAt w' d y F' ∧ Upd F w w' F') : DNew w0 w' d y ∧ KpT w w' := by
  obtain ⟨F, h1, h2, h3, F', h4, h5, h6⟩ := h
  exact ⟨⟨F', h4, h2.trans h5 (fun k hk hf => absurd (h3 k hf) (by omega)), fun k hk => by
    rcases h6 k hk with h | h
    · exact h3 k h
    · have := h2.size; omega⟩, KpT.of h1 h5⟩
end DNew
theorem n_new (w : World) : Calls Tryz.prog 6 #[] w fun e w' => ∃ d, e = .returned (.pointer (some ⟨d, 0, none⟩)) ∧ DNew w w' d newD ∧ Kp No w w' :=
  (d_new w).mono fun _ _ ⟨d, F, he, h1, h2, h3⟩ => ⟨d, he, ⟨F, h1, h2, h3⟩, h2⟩
section
variable {w0 : World} {d : Nat} {x : DV} (n s : ByteArray) (w : World) (h : DNew w0 w d x)
include h
theorem n_append : Calls Tryz.prog 39 #[.pointer (some ⟨d, 0, none⟩), .string n, .string s] w fun e w' => e = .returned (.int .i64 (appendD n s x).1) ∧ DNew w0 w' d (appendD n s x).2 ∧ KpT w w' := by
  obtain ⟨F, h1, h2, h3⟩ := h
  exact (d_append d x F n s w h1).mono fun e w' ⟨he, h4⟩ => ⟨he, DNew.step ⟨F, h1, h2, h3, h4⟩⟩
theorem n_sync : Calls Tryz.prog 41 #[.pointer (some ⟨d, 0, none⟩), .string n] w fun e w' => e = .returned (.int .i64 (syncD n x).1) ∧ DNew w0 w' d (syncD n x).2 ∧ KpT w w' := by
  obtain ⟨F, h1, h2, h3⟩ := h
  exact (d_sync d x F n w h1).mono fun e w' ⟨he, h4⟩ => ⟨he, DNew.step ⟨F, h1, h2, h3, h4⟩⟩
theorem n_remove : Calls Tryz.prog 31 #[.pointer (some ⟨d, 0, none⟩), .string n] w fun e w' => e = .returned (.int .i64 (removeD n x).1) ∧ DNew w0 w' d (removeD n x).2 ∧ KpT w w' := by
  obtain ⟨F, h1, h2, h3⟩ := h
  exact (d_remove d x F n w h1).mono fun e w' ⟨he, h4⟩ => ⟨he, DNew.step ⟨F, h1, h2, h3, h4⟩⟩
theorem n_flip (b : Int) (hb : (Lit.int .i64 b).wf = true) : Calls Tryz.prog 14 #[.pointer (some ⟨d, 0, none⟩), .string n, .int .i64 b] w fun e w' => e = .returned (.int .i64 (flipD n b x).1) ∧ DNew w0 w' d (flipD n b x).2 ∧ KpT w w' := by
  obtain ⟨F, h1, h2, h3⟩ := h
  exact (d_flip d x F n b w h1 hb).mono fun e w' ⟨he, h4⟩ => ⟨he, DNew.step ⟨F, h1, h2, h3, h4⟩⟩
theorem n_read : Calls Tryz.prog 62 #[.pointer (some ⟨d, 0, none⟩), .string n] w fun e w' => e = .returned (.tuple #[.string (textOr (readD n x)), .bool (readD n x).isSome]) ∧ w' = w := by
  obtain ⟨F, h1, h2, h3⟩ := h
  exact d_read d x F n w h1
theorem n_down : Calls Tryz.prog 26 #[.pointer (some ⟨d, 0, none⟩)] w fun e w' => e = .returned (.bool x.off) ∧ w' = w := by
  obtain ⟨F, h1, h2, h3⟩ := h
  exact d_down d x F w h1
theorem n_names (hn : x.files.length ≤ 1000000) : Calls Tryz.prog 27 #[.pointer (some ⟨d, 0, none⟩), .string n] w fun e w' => ∃ A c, e = .returned (.slice A (namesD n x).length c) ∧ Own Rp.str w' No w.heap.size 9 (.slice A (namesD n x).length c) (namesD n x) ∧ Kp No w w' := by
  obtain ⟨F, h1, h2, h3⟩ := h
  exact d_names d x F n w h1 hn
end

/-- what the drive of 'awake' goes through -/
theorem awake_plain : ∃ s1 s2 s3 s4 s5 s6 s7 : DV, appendD ⟨#[97]⟩ ⟨#[120, 121]⟩ newD = (0, s1) ∧ syncD ⟨#[97]⟩ s1 = (0, s2) ∧ appendD ⟨#[97]⟩ ⟨#[122]⟩ s2 = (0, s3) ∧ crashD [1] s3 = s4 ∧ readD ⟨#[97]⟩ s4 = some ⟨#[120, 121, 122]⟩ ∧ fuseD 1 s4 = s5 ∧
    appendD ⟨#[98]⟩ ⟨#[113]⟩ s5 = (0, s6) ∧ syncD ⟨#[98]⟩ s6 = (50, s7) ∧ s7.off = true ∧ appendD ⟨#[65]⟩ ⟨#[]⟩ s7 = (1, s7) ∧ s7.steps = 4 ∧ s3.files.length = 1 := by
  refine ⟨_, _, _, _, _, _, _, Prod.ext ?_ rfl, Prod.ext ?_ rfl, Prod.ext ?_ rfl, rfl, ?_, rfl, Prod.ext ?_ rfl, Prod.ext ?_ rfl, ?_, ?_, ?_, ?_⟩ <;> kernel_rfl
end
end Go.Proofs.YtflodiljgphkdaaGreat
