/-
  Put together: RmE, AppF, RmF.
-/
import Derived.Test.YtamfgmlhopjppaaRmD
import Derived.Test.YtamfgmlhopjppaaGK
import Derived.Test.YtamfgmlhopjppaaGA
import Derived.Test.YtamfgmlhopjppaaRegT
import Derived.BigQuiet
namespace Go.Proofs.Ytamfgmlhopjppaa
section
open Go.RowKit Go.ChangeShapes Go.WideShapes Go.ChangeAt

/-- the document's model has what the program's has, and both are such as may be -/
structure RefOk (M : MV) (R : RV) : Prop where
  same : SameL M R
  ok : OkM M
  cl : ClosedM M
  nums : ∀ p l, mget p M.lines = some l → l.op.nums
  kinds : ∀ p l, mget p M.lines = some l → l.op.kind = 1 ∨ l.op.kind = 2 ∨ l.op.kind = 3
  len : R.lines.length ≤ 1000000
theorem r_path26' {M : MV} {R : RV} (h : RefOk M R) (p : Int × Int) (r : Nat) (F : Nat → Prop) (w : World) (hM : RMAt w r R F) :
    Calls Try.prog 17 #[.pointer (some ⟨r, 0, none⟩), spotV p] w fun e w' => (∃ A c, e = .returned (.tuple #[.slice A (pathD M p).length c, .bool (pathM M p).isSome]) ∧ Rp.opl.slice.R w' (fun k => w.heap.size ≤ k) [.slice A (pathD M p).length c] (pathD M p)) ∧ Kp No w w' :=
  (r_path26 r M R F h.same h.ok h.cl h.nums h.len (p.1.toNat + 1) p w (Nat.lt_succ_self _) hM).mono (fun _ _ h => ⟨pathP_all h.1, h.2⟩)
theorem liveL1_nodup : ∀ (L : List OpL) (m : List (ByteArray × OpL)), (m.map (·.1)).Nodup → ((L.foldl liveG m).map (·.1)).Nodup
  | [], _, h => h
  | o :: L, m, h => liveL1_nodup L (liveG m o) (by
    unfold liveG
    split
    · exact nodup_mput _ _ _ h
    · split
      · exact nodup_mdel _ _ h
      · exact h)
theorem live_step (L : List OpL) (o : OpL) (nm : ByteArray) (hk : o.kind = 1 ∨ o.kind = 2 ∨ o.kind = 3) : mget nm (liveL1 (L ++ [o])) = if o.kind = 3 ∨ o.name ≠ nm then mget nm (liveL1 L) else if o.kind = 1 then some o else none := by
  rw [liveL1_snoc]
  have hn : ((liveL1 L).map (·.1)).Nodup := liveL1_nodup L [] List.nodup_nil
  unfold liveG
  rcases hk with h | h | h
  · rw [if_pos h, mget_put]
    by_cases e : o.name = nm
    · rw [if_pos e.symm, if_neg (by rintro (h2 | h2); omega; exact h2 e), if_pos h]
    · rw [if_neg (fun e2 => e e2.symm), if_pos (.inr e)]
  · rw [if_neg (by omega), if_pos h, mget_del _ _ _ hn]
    by_cases e : o.name = nm
    · rw [if_pos e.symm, if_neg (by rintro (h2 | h2); omega; exact h2 e), if_neg (by omega)]
    · rw [if_neg (fun e2 => e e2.symm), if_pos (.inr e)]
  · rw [if_neg (by omega), if_neg (by omega), if_pos (.inl h)]
theorem RefOk.path {M : MV} {R : RV} (h : RefOk M R) (p : Int × Int) : (∀ o ∈ pathD M p, (o.kind = 1 ∨ o.kind = 2 ∨ o.kind = 3) ∧ o.hashes.length ≤ 1000000 ∧ o.nums) ∧ (pathD M p).length ≤ 1000000 := by
  obtain ⟨h1, h2⟩ := pathD_mem h.ok p
  refine ⟨fun o ho => ?_, h2⟩
  obtain ⟨q, l, hq, rfl⟩ := h1 o ho
  exact ⟨h.kinds q l hq, h.ok.hashes q l hq, h.nums q l hq⟩
set_option maxRecDepth 100000 in
set_option maxHeartbeats 16000000 in
theorem r_fnd26 {M : MV} {R : RV} (hrf : RefOk M R) (p : Int × Int) (nm : ByteArray) (r : Nat) (F : Nat → Prop) (w : World) (hM : RMAt w r R F) :
    Calls Try.prog 21 #[.pointer (some ⟨r, 0, none⟩), spotV p, .string nm] w fun e w' => ∃ (A : Option Addr) (c : Nat), e = .returned (.tuple #[opV ((findM M p nm).getD zeroO) (.slice A ((findM M p nm).getD zeroO).hashes.length c), .bool (findM M p nm).isSome]) ∧ Rp.str.slice.R w' (fun k => w.heap.size ≤ k) [.slice A ((findM M p nm).getD zeroO).hashes.length c] ((findM M p nm).getD zeroO).hashes ∧ Kp No w w' := by
  have HPA := fun w' (hk : Kp No w w') => Lib.hid (r_path26' hrf p r F w' (hM.keptNo hk))
  obtain ⟨Z, hZ⟩ : ∃ Z, findM M p nm = Z := ⟨_, rfl⟩
  rw [hZ]
  have hpd := hrf.path p
  unfold findM at hZ
  obtain ⟨L, hL⟩ : ∃ L, pathD M p = L := ⟨_, rfl⟩
  obtain ⟨TB, hTB⟩ : ∃ v, (pathM M p).isSome = v := ⟨_, rfl⟩
  rw [hL] at hZ hpd
  have HZ : Hid (mget nm (liveL1 (L.take L.length)) = Z) := Lib.hid (by rw [List.take_length]; exact hZ)
  have HPD := Lib.hid hpd.1
  have hll : (L.length : Int) ≤ 1000000 := by have := hpd.2; omega
  rw [hL, hTB] at HPA
  unfold spotV at HPA ⊢
  clear hM hrf hZ hpd hL hTB
  go_enter Try.func21, Try.ntmps21
  go_wp2_with fail
  obtain ⟨at_, hat⟩ : ∃ v, w.heap.size = v := ⟨_, rfl⟩
  obtain ⟨y, hy⟩ : ∃ v, w.heap.size + 1 = v := ⟨_, rfl⟩
  obtain ⟨wa, hwa⟩ : ∃ v, (w.alloc (.cells #[.int .i64 p.1, .int .i64 p.2] 37)).alloc (.cells #[.int .i64 0, .int .i64 0, .int .i64 0, .int .i64 0, .int .i64 0, .int .i64 0, .string { data := #[] }, .int .i64 0, .slice none 0 0] 58) = v := ⟨_, rfl⟩
  have hka : Kp No w wa := by rw [← hwa]; exact ((Kp.refl _ _).alloc _).alloc _
  have hby : Blk wa y 58 [.int .i64 0, .int .i64 0, .int .i64 0, .int .i64 0, .int .i64 0, .int .i64 0, .string { data := #[] }, .int .i64 0, .slice none 0 0] := by
    have h := Blk.new (w.alloc (.cells #[.int .i64 p.1, .int .i64 p.2] 37)) [.int .i64 0, .int .i64 0, .int .i64 0, .int .i64 0, .int .i64 0, .int .i64 0, .string { data := #[] }, .int .i64 0, .slice none 0 0] 58
    rw [← hwa, ← hy]
    simpa using h
  try rw [hwa]
  try rw [hy]
  try rw [hat]
  have HYW : Hid (w.heap.size ≤ y ∧ y < wa.heap.size) := Lib.hid ⟨by omega, Blk.lt hby⟩
  refine (HPA wa hka).out.mono ?_
  rintro e w2 ⟨⟨A, c, rfl, hrd⟩, hk2⟩
  have HBY := Lib.hid (hby.kept hk2 (fun z => z))
  have HK2 := Lib.hid (hka.trans' hk2)
  have HRD := Lib.hid hrd
  clear hka hby hwa hat hy hrd hk2 HPA
  go_wp2_with fail
  go_loopw [10] (fun iv wr => ∃ k : Nat, k ≤ L.length ∧ iv = .int .i64 ((k : Int) - 1) ∧ wr = w2 ∧ Hid (mget nm (liveL1 (L.take k)) = Z)) (fun iv _ => (intOf iv + 1).toNat)
  case atStart => exact ⟨L.length, Nat.le_refl _, rfl, rfl, HZ⟩
  case round =>
    clear HZ
    obtain ⟨k, hk, rfl, rfl, HZ⟩ := hrel
    obtain ⟨w2, rfl⟩ : ∃ v, v = wr := ⟨_, rfl⟩
    rcases Nat.eq_zero_or_pos k with hk0 | hk0
    case inl =>
      subst hk0
      have e0 : ((0 : Nat) : Int) - 1 = -1 := rfl
      rw [e0]
      have hZn : Z = none := by rw [← HZ.out]; rfl
      subst hZn
      have hst := run_store_opAt w2 y 0 zeroO none 0 0 zeroO (.slice none 0 0) (fun k u hu => by
        have := HBY.out.cell (i := k) (u := u) hu
        simpa using this) (Blk.fr HBY.out)
      have hb4 := wset_blk (vs := zeroO.cells (.slice none 0 0)) (o := 0) HBY.out
      have hk4 : Kp (· = y) w2 (wset w2 y 0 (zeroO.cells (.slice none 0 0))) := wset_kp
      obtain ⟨w4, hw4⟩ : ∃ v, wset w2 y 0 (zeroO.cells (.slice none 0 0)) = v := ⟨_, rfl⟩
      rw [hw4] at hst hb4 hk4
      have HST := Lib.hid hst
      have HB4 : Hid (Blk w4 y 58 (zeroO.cells (.slice none 0 0))) := Lib.hid hb4
      have HK4 : Hid (Kp No w w4) := Lib.hid (HK2.out.trans hk4 (fun k hk e => by have := HYW.out.1; omega))
      unfold opV zeroO at HST
      clear hst hb4 hk4 hw4 e0 hk
      go_wp2_with (refine wpl_store (by first | rfl | go_simp) 58 _ _ rfl _ _ rfl rfl HST.out ?_; go_simp)
      exact bodyPost_ret (results_ctM rfl _ _ y _ _ _ _ rfl HB4.out Try.underlying58 rfl (by kernel_rfl)) rfl ⟨none, 0, rfl, Rp.none_ _ _ _, HK4.out⟩
    case inr =>
      obtain ⟨j, rfl⟩ : ∃ j, k = j + 1 := ⟨k - 1, by omega⟩
      have hij : ((j + 1 : Nat) : Int) - 1 = (j : Int) := by omega
      rw [hij]
      have hji : (j : Int) < (L.length : Int) := by omega
      have hj0 : (0 : Int) ≤ (j : Int) := by omega
      obtain ⟨o, ho⟩ : ∃ o, L[j]? = some o := ⟨_, List.getElem?_eq_getElem (by omega)⟩
      obtain ⟨ad, A', c', rfl, _, hcell, hnum, hro⟩ := Rp.at_opl HRD.out ho
      obtain ⟨z0, z1, z2, z3, z4, z5, z6, z7, z8⟩ := opl_cells hcell
      have hstp := live_step (L.take j) o nm (HPD.out o (List.mem_of_getElem? ho)).1
      rw [← take_snocM ho, HZ.out] at hstp
      have HSTP := Lib.hid hstp
      have HRO := Lib.hid hro
      have HCE := Lib.hid hcell
      clear hstp hro hcell hnum ho hij
      obtain ⟨on, oe, okd, os, oc, oq, onm, osz, ohs⟩ := o
      simp only at HSTP HRO HCE z0 z1 z2 z3 z4 z5 z6 z7 z8
      by_cases k3 : okd = 3
      case pos =>
        have HZ2 : Hid (mget nm (liveL1 (L.take j)) = Z) := Lib.hid (by rw [HSTP.out, if_pos (.inl k3)])
        have kb : (okd == 3) = true := beq_iff_eq.2 k3
        have kn : (okd != 3) = false := by rw [bne, kb]; rfl
        clear k3
        go_wp2_with fail
        go_roundw
        case rel => exact ⟨j, by omega, by go_num, (by first | rfl | trivial), HZ2⟩
        case measure => simp [intOf]
      have kb : (okd == 3) = false := beq_eq_false_iff_ne.2 k3
      have kn : (okd != 3) = true := by rw [bne, kb]; rfl
      by_cases hnm : onm = nm
      case neg =>
        have HZ2 : Hid (mget nm (liveL1 (L.take j)) = Z) := Lib.hid (by rw [HSTP.out, if_pos (.inr hnm)])
        have nb : (onm.toList == nm.toList) = false := by rw [bytes_list_beq]; exact decide_eq_false hnm
        clear k3 hnm
        go_wp2_with fail
        go_roundw
        case rel => exact ⟨j, by omega, by go_num, (by first | rfl | trivial), HZ2⟩
        case measure => simp [intOf]
      subst hnm
      have HZ3 : Hid (Z = if okd = 1 then some ⟨on, oe, okd, os, oc, oq, onm, osz, ohs⟩ else none) := Lib.hid (by rw [HSTP.out, if_neg (by rintro (h | h); exact k3 h; exact h rfl)])
      have nb : (onm.toList == onm.toList) = true := by rw [bytes_list_beq]; exact decide_eq_true rfl
      by_cases k1 : okd = 1
      case neg =>
        have hZn : Z = none := by rw [HZ3.out, if_neg k1]
        subst hZn
        have k1b : (okd == 1) = false := beq_eq_false_iff_ne.2 k1
        have hst := run_store_opAt w2 y 0 zeroO none 0 0 zeroO (.slice none 0 0) (fun k u hu => by
          have := HBY.out.cell (i := k) (u := u) hu
          simpa using this) (Blk.fr HBY.out)
        have hb4 := wset_blk (vs := zeroO.cells (.slice none 0 0)) (o := 0) HBY.out
        have hk4 : Kp (· = y) w2 (wset w2 y 0 (zeroO.cells (.slice none 0 0))) := wset_kp
        obtain ⟨w4, hw4⟩ : ∃ v, wset w2 y 0 (zeroO.cells (.slice none 0 0)) = v := ⟨_, rfl⟩
        rw [hw4] at hst hb4 hk4
        have HST := Lib.hid hst
        have HB4 : Hid (Blk w4 y 58 (zeroO.cells (.slice none 0 0))) := Lib.hid hb4
        have HK4 : Hid (Kp No w w4) := Lib.hid (HK2.out.trans hk4 (fun k hk e => by have := HYW.out.1; omega))
        unfold opV zeroO at HST
        clear hst hb4 hk4 hw4 k1 k3 HSTP HZ HZ3
        go_wp2_with (refine wpl_store (by first | rfl | go_simp) 58 _ _ rfl _ _ rfl rfl HST.out ?_; go_simp)
        exact bodyPost_ret (results_ctM rfl _ _ y _ _ _ _ rfl HB4.out Try.underlying58 rfl (by kernel_rfl)) rfl ⟨none, 0, rfl, Rp.none_ _ _ _, HK4.out⟩
      case pos =>
        have hZs : Z = some ⟨on, oe, okd, os, oc, oq, onm, osz, ohs⟩ := by rw [HZ3.out, if_pos k1]
        subst hZs
        have k1b : (okd == 1) = true := beq_iff_eq.2 k1
        have hst := run_store_opAt w2 y 0 ⟨on, oe, okd, os, oc, oq, onm, osz, ohs⟩ A' ohs.length c' zeroO (.slice none 0 0) (fun k u hu => by
          have := HBY.out.cell (i := k) (u := u) hu
          simpa using this) (Blk.fr HBY.out)
        have hb4 := wset_blk (vs := (⟨on, oe, okd, os, oc, oq, onm, osz, ohs⟩ : OpL).cells (.slice A' ohs.length c')) (o := 0) HBY.out
        have hk4 : Kp (· = y) w2 (wset w2 y 0 ((⟨on, oe, okd, os, oc, oq, onm, osz, ohs⟩ : OpL).cells (.slice A' ohs.length c'))) := wset_kp
        have hr4 := Rp.str.slice.more (Rp.str.slice.kept HRO.out hk4 (fun k hk _ e => by have := HYW.out.2; omega)) (fun k hk => (by have := HYW.out; omega : w.heap.size ≤ k))
        obtain ⟨w4, hw4⟩ : ∃ v, wset w2 y 0 ((⟨on, oe, okd, os, oc, oq, onm, osz, ohs⟩ : OpL).cells (.slice A' ohs.length c')) = v := ⟨_, rfl⟩
        rw [hw4] at hst hb4 hk4 hr4
        have HST := Lib.hid hst
        have HR4 := Lib.hid hr4
        have HB4 : Hid (Blk w4 y 58 ((⟨on, oe, okd, os, oc, oq, onm, osz, ohs⟩ : OpL).cells (.slice A' ohs.length c'))) := Lib.hid hb4
        have HK4 : Hid (Kp No w w4) := Lib.hid (HK2.out.trans hk4 (fun k hk e => by have := HYW.out.1; omega))
        unfold opV at HST
        clear hst hb4 hk4 hw4 hr4 k1 k3 HSTP HZ HZ3
        go_wp2_with (refine wpl_store (by first | rfl | go_simp) 58 _ _ rfl _ _ (by go_simp) (by go_simp) HST.out ?_; go_simp)
        exact bodyPost_ret (results_ctM rfl _ _ y _ _ _ _ rfl HB4.out Try.underlying58 rfl (by kernel_rfl)) rfl ⟨A', c', rfl, HR4.out, HK4.out⟩
end

section
open Go.RowKit Go.ChangeShapes Go.WideShapes Go.ChangeAt

theorem run_append_full {α : Type} {E : Rp α} {P : Program} (w : World) (t ty e : TypeId) (bytes : Nat) (el : Elem P t e E.size bytes) (S : Nat → Prop) (A : Option Addr) (l : List α) (hl : E.slice.R w S [.slice A l.length l.length] l)
    (B : Option Addr) (c : Nat) (m : List α) (hm : E.slice.R w S [.slice B m.length c] m) (h0 : 0 < m.length) (hone : ∀ cs a S', E.R w S' cs a → ∀ u ∈ cs, u.oneCell' = true)
    (hcap : l.length + m.length ≤ maxLen) (hbytes : (l.length + m.length) * bytes ≤ 140737488355328) :
    ∃ A' c' w', (Builtin.append_ #[t, t] ty #[.slice A l.length l.length, .slice B m.length c]).run P w = .ok (.slice A' (l ++ m).length c') w' ∧ Own E w' S w.heap.size e (.slice A' (l ++ m).length c') (l ++ m) ∧ Kp No w w' := by
  obtain ⟨olds, o1, o2, o3⟩ := Rp.news hl
  obtain ⟨news, n1, n2, n3⟩ := Rp.news hm
  obtain ⟨b, rfl, _, hnews⟩ := n2 h0
  obtain ⟨ht, i, z, hi, hz, hsize, hby, hzs, hpos⟩ := el
  have hones : ∀ (xs : List Value) (l : List α) (_ : xs.length = l.length * E.size) (_ : ∀ (i : Nat) a, l[i]? = some a → E.R w S ((xs.drop (i * E.size)).take E.size) a), ∀ u ∈ xs, u.oneCell' = true := by
    intro xs l hx hr u hu
    obtain ⟨j, hj, rfl⟩ := List.mem_iff_getElem.1 hu
    have hq : j / E.size < l.length := by rw [Nat.div_lt_iff_lt_mul E.pos]; omega
    have h7 := hr (j / E.size) l[j / E.size] (List.getElem?_eq_getElem hq)
    refine hone _ _ _ h7 _ (List.mem_of_getElem? (i := j % E.size) ?_)
    rw [List.getElem?_take_of_lt (Nat.mod_lt _ E.pos), List.getElem?_drop]
    have : j / E.size * E.size + j % E.size = j := by rw [Nat.mul_comm]; exact Nat.div_add_mod j E.size
    rw [this]
    exact List.getElem?_eq_getElem hj
  have hlen2 : (l ++ m).length = l.length + m.length := List.length_append
  have hxl : (olds ++ news).length = (l.length + m.length) * E.size := by rw [List.length_append, o1, n1, Nat.add_mul]
  have hge := grownCap_ge w (l.length + m.length) l.length e
  have hgm : grownCap w (l.length + m.length) l.length e ≤ maxLen := grownCap_le_maxLen w (l.length + m.length) l.length e hcap
  have hkp : Kp No w (w.drew.alloc (.cells (olds.toArray ++ news.toArray ++ Builtin.zeroCells z.cells (grownCap w (l.length + m.length) l.length e - (l.length + m.length))) e)) := ((Kp.refl _ w).drew).alloc _
  have hown : Own E (w.drew.alloc (.cells (olds.toArray ++ news.toArray ++ Builtin.zeroCells z.cells (grownCap w (l.length + m.length) l.length e - (l.length + m.length))) e)) S w.heap.size e (.slice (some ⟨w.heap.size, 0, none⟩) (l ++ m).length (grownCap w (l.length + m.length) l.length e)) (l ++ m) := by
    refine ⟨olds ++ news, ⟨by rw [hlen2, hxl], .inr ⟨w.heap.size, _, _, rfl, Nat.le_refl _, heap_alloc_new w.drew _, by rw [hlen2]; exact hge, hgm, ?_, ?_⟩⟩, ?_, ?_⟩
    · simp only [Array.size_append, List.size_toArray, size_zeroCells, hzs, o1, n1, ← Nat.add_mul]
      congr 1
      omega
    · simp only [Array.toList_append, List.append_assoc]
      rw [← List.append_assoc, hlen2, ← hxl]
      exact List.take_left
    · intro u hu
      rcases List.mem_append.1 hu with h | h
      · exact hones olds l o1 o3 u h
      · exact hones news m n1 n3 u h
    · intro i a ha
      refine E.keptNo ?_ hkp
      rcases Nat.lt_or_ge i l.length with hlt | hge
      · rw [List.getElem?_append_left hlt] at ha
        have h7 := o3 i a ha
        have hle : (i + 1) * E.size ≤ l.length * E.size := Nat.mul_le_mul_right _ hlt
        rw [Nat.succ_mul] at hle
        rw [List.drop_append_of_le_length (by omega), List.take_append_of_le_length (by rw [List.length_drop]; omega)]
        exact h7
      · rw [List.getElem?_append_right hge] at ha
        have h7 := n3 _ a ha
        have hle : l.length * E.size ≤ i * E.size := Nat.mul_le_mul_right _ hge
        rw [List.drop_append, List.drop_eq_nil_of_le (by omega), List.nil_append, o1, ← Nat.sub_mul]
        exact h7
  have h63 : ((l.length + m.length : Nat) : Int) ≤ 9223372036854775807 := by unfold maxLen at hcap; omega
  cases A with
  | some a =>
    have holds : ∀ (j : Nat) u, olds[j]? = some u → w.cell? (a.add j) = some u := by
      intro j u hu
      have hl0 : 0 < l.length := by
        rcases Nat.eq_zero_or_pos l.length with h | h
        · have : olds = [] := List.eq_nil_of_length_eq_zero (by simpa [h] using o1)
          rw [this] at hu; simp at hu
        · exact h
      obtain ⟨a', ha', _, hc⟩ := o2 hl0
      injection ha' with ha'
      subst ha'
      exact hc j u hu
    have hr := run_append_grow (P := P) w t ty e i z ht hi hz a l.length l.length olds (by rw [hsize]; exact o1) holds b m.length c news (by rw [hsize]; exact n1) hnews (by omega) h63 (by rw [hby]; exact growslice_fits (by omega) hbytes)
    exact ⟨_, _, _, by rw [hlen2]; exact hr, by rw [hlen2] at hown ⊢; exact hown, hkp⟩
  | none =>
    have hl0 : l.length = 0 := by
      rcases Nat.eq_zero_or_pos l.length with h | h
      · exact h
      · obtain ⟨_, ha, _⟩ := o2 h; cases ha
    have ho : olds = [] := List.eq_nil_of_length_eq_zero (by simpa [hl0] using o1)
    have hr := run_append_nil (P := P) w t ty e i z ht hi hz b m.length c news (by rw [hsize]; exact n1) hnews h0 (by omega) (by rw [hby]; simp only [hl0, Nat.zero_add] at hbytes; omega)
    subst ho
    rw [hl0] at hown hkp hlen2 ⊢
    simp only [Nat.zero_add, Array.empty_append] at hown hkp hlen2
    exact ⟨_, _, _, by rw [hlen2]; exact hr, by rw [hlen2] at hown ⊢; simpa using hown, by simpa using hkp⟩
theorem wpList_append_full {α : Type} {E : Rp α} {P : Program} {ops : Array Oper} {rest : List Oper} {o : Oper} {a : Act} {Q : Exit → Act → World → Prop} (hgd : o.guard = none) (w : World) (s x : Operand) (t : TypeId)
    (ho : o.op = .call { callee := .builtin .append, args := #[s, x], argTypes := #[t, t] }) (e : TypeId) (bytes : Nat) (el : Elem P t e E.size bytes) (S : Nat → Prop) (A : Option Addr) (l : List α) (hs : a.eval s = .slice A l.length l.length) (hl : E.slice.R w S [.slice A l.length l.length] l)
    (B : Option Addr) (c : Nat) (m : List α) (hx : a.eval x = .slice B m.length c) (hm : E.slice.R w S [.slice B m.length c] m) (h0 : 0 < m.length) (hone : ∀ cs a S', E.R w S' cs a → ∀ u ∈ cs, u.oneCell' = true)
    (hcap : l.length + m.length ≤ maxLen) (hbytes : (l.length + m.length) * bytes ≤ 140737488355328)
    (h : ∀ A' c' w', Own E w' S w.heap.size e (.slice A' (l ++ m).length c') (l ++ m) → Kp No w w' → wpList P ops Q rest (a.put o.dst (.slice A' (l ++ m).length c')) w') : wpList P ops Q (o :: rest) a w := by
  refine wpList_plain hgd fun K hK => ?_
  obtain ⟨A', c', w', hr, h2, h3⟩ := run_append_full (P := P) w t o.type e bytes el S A l hl B c m hm h0 hone hcap hbytes
  unfold Oper.wp execOp
  simp only [ho, resolve, invoke, builtin, Sem.run_bind, Sem.run_pure, Result.andThen_ok, List.map_toArray, List.map_cons, List.map_nil, hs, hx, hr]
  exact hK _ _ (h A' c' w' h2 h3)
/-- append of nothing -/
theorem wpList_append_none {P : Program} {ops : Array Oper} {rest : List Oper} {o : Oper} {a : Act} {Q : Exit → Act → World → Prop} (hgd : o.guard = none) (w : World) (s x : Operand) (t e : TypeId)
    (ho : o.op = .call { callee := .builtin .append, args := #[s, x], argTypes := #[t, t] }) (size bytes : Nat) (el : Elem P t e size bytes) (A : Option Addr) (n c : Nat) (hnc : n ≤ c) (hs : a.eval s = .slice A n c)
    (B : Option Addr) (c2 : Nat) (hx : a.eval x = .slice B 0 c2) (h : wpList P ops Q rest (a.put o.dst (.slice A n c)) w) : wpList P ops Q (o :: rest) a w := by
  refine wpList_plain hgd fun K hK => ?_
  obtain ⟨ht, i, z, hi, hz, hsize, hby, hzs, hpos⟩ := el
  have hr : (Builtin.append_ #[t, t] o.type #[.slice A n c, .slice B 0 c2]).run P w = .ok (.slice A n c) w := by
    cases B with
    | none => cases A <;> simp [Builtin.append_, run_underlying ht, sizeOf, typeInfo, hi, Builtin.lenOf, Builtin.firstCells, hnc, storeCells, Sem.run_pure]
    | some b =>
      have hf := run_firstCells_some (P := P) w i.size 0 b 0 c2 [] (by simp) (by simp)
      cases A <;> simp [Builtin.append_, run_underlying ht, sizeOf, typeInfo, hi, Builtin.lenOf, hnc, hf, storeCells, Sem.run_pure]
  unfold Oper.wp execOp
  simp only [ho, resolve, invoke, builtin, Sem.run_bind, Sem.run_pure, Result.andThen_ok, List.map_toArray, List.map_cons, List.map_nil, hs, hx, hr]
  exact hK _ _ h
end

section
open Go.RowKit Go.ChangeShapes Go.WideShapes Go.ChangeAt

theorem less_nltR (a b : ByteArray) : Op.bytesLess a.toList b.toList = decide (nlt a b) := by
  rw [bytesLess_eq, Lib.toList_data, Lib.toList_data]; rfl
/-- a name put into a rising row -/
def insK (k : Nat) (nm : ByteArray) (out : List ByteArray) : List ByteArray := if out[k]? = some nm then out else out.take k ++ nm :: out.drop k
/-- where a name belongs -/
def AtK (k : Nat) (nm : ByteArray) (out : List ByteArray) : Prop := k ≤ out.length ∧ (∀ j x, j < k → out[j]? = some x → nlt x nm) ∧ (k = out.length ∨ ∃ d, out[k]? = some d ∧ ¬ nlt d nm)
theorem insK_mem {k : Nat} {nm x : ByteArray} {out : List ByteArray} : x ∈ insK k nm out ↔ x = nm ∨ x ∈ out := by
  unfold insK
  split
  · rename_i h
    constructor
    · exact fun h => .inr h
    · rintro (rfl | h2)
      · exact List.mem_of_getElem? h
      · exact h2
  · rw [List.mem_append, List.mem_cons]
    constructor
    · rintro (h | h | h)
      · exact .inr (List.mem_of_mem_take h)
      · exact .inl h
      · exact .inr (List.mem_of_mem_drop h)
    · rintro (h | h)
      · exact .inr (.inl h)
      · rw [← List.take_append_drop k out] at h
        rcases List.mem_append.1 h with h | h
        · exact .inl h
        · exact .inr (.inr h)
theorem insK_rising {k : Nat} {nm : ByteArray} {out : List ByteArray} (hs : out.Pairwise nlt) (h : AtK k nm out) : (insK k nm out).Pairwise nlt := by
  unfold insK
  split
  · exact hs
  · rename_i hne
    obtain ⟨h1, h2, h3⟩ := h
    have hs2 := hs
    rw [← List.take_append_drop k out, List.pairwise_append] at hs2
    obtain ⟨p1, p2, p3⟩ := hs2
    have hlow : ∀ x ∈ out.take k, nlt x nm := fun x hx => by
      obtain ⟨j, hj⟩ := List.getElem?_of_mem hx
      have hjk : j < k := by have := (List.getElem?_eq_some_iff.1 hj).1; rw [List.length_take] at this; omega
      rw [List.getElem?_take, if_pos hjk] at hj
      exact h2 j x hjk hj
    have hhigh : ∀ x ∈ out.drop k, nlt nm x := fun x hx => by
      rcases h3 with h3 | ⟨d, hd, hnd⟩
      · rw [List.drop_eq_nil_of_le (by omega)] at hx
        cases hx
      · obtain ⟨e1, e2⟩ := List.getElem?_eq_some_iff.1 hd
        have hdn : d ≠ nm := fun e => hne (by rw [hd, e])
        have hnd2 : nlt nm d := nlt_tri hnd hdn
        rw [List.drop_eq_getElem_cons e1, e2] at hx p2
        rcases List.mem_cons.1 hx with rfl | hx
        · exact hnd2
        · exact nlt_trans hnd2 ((List.pairwise_cons.1 p2).1 x hx)
    rw [List.pairwise_append]
    refine ⟨p1, List.pairwise_cons.2 ⟨hhigh, p2⟩, fun a ha b hb => ?_⟩
    rcases List.mem_cons.1 hb with rfl | hb
    · exact hlow a ha
    · exact nlt_trans (hlow a ha) (hhigh b hb)
/-- the names so far -/
def NamesTo (V : List (ByteArray × OpL)) (L : List OpL) (out : List ByteArray) : Prop := out.Pairwise nlt ∧ ∀ x, x ∈ out ↔ ∃ o ∈ L, o.kind ≠ 3 ∧ (mget o.name V).isSome = true ∧ o.name = x
theorem NamesTo.nil (V : List (ByteArray × OpL)) : NamesTo V [] [] := ⟨List.Pairwise.nil, fun x => by simp⟩
theorem NamesTo.skip {V : List (ByteArray × OpL)} {L : List OpL} {out : List ByteArray} {o : OpL} (h : NamesTo V L out) (hs : ¬ (o.kind ≠ 3 ∧ (mget o.name V).isSome = true)) : NamesTo V (L ++ [o]) out := ⟨h.1, fun x => by
  rw [h.2 x]
  constructor
  · rintro ⟨q, hq, hr⟩
    exact ⟨q, List.mem_append_left _ hq, hr⟩
  · rintro ⟨q, hq, h1, h2, h3⟩
    rcases List.mem_append.1 hq with hq | hq
    · exact ⟨q, hq, h1, h2, h3⟩
    · rw [List.mem_singleton.1 hq] at h1 h2
      exact absurd ⟨h1, h2⟩ hs⟩
theorem NamesTo.put {V : List (ByteArray × OpL)} {L : List OpL} {out : List ByteArray} {o : OpL} {k : Nat} (h : NamesTo V L out) (h1 : o.kind ≠ 3) (h2 : (mget o.name V).isSome = true) (hk : AtK k o.name out) : NamesTo V (L ++ [o]) (insK k o.name out) := ⟨insK_rising h.1 hk, fun x => by
  rw [insK_mem, h.2 x]
  constructor
  · rintro (rfl | ⟨q, hq, hr⟩)
    · exact ⟨o, List.mem_append_right _ List.mem_cons_self, h1, h2, rfl⟩
    · exact ⟨q, List.mem_append_left _ hq, hr⟩
  · rintro ⟨q, hq, h3, h4, h5⟩
    rcases List.mem_append.1 hq with hq | hq
    · exact .inr ⟨q, hq, h3, h4, h5⟩
    · rw [List.mem_singleton.1 hq] at h5
      exact .inl h5.symm⟩
theorem live_of_op : ∀ (L : List OpL) (m : List (ByteArray × OpL)), (m.map (·.1)).Nodup → (∀ o ∈ L, o.kind = 1 ∨ o.kind = 2 ∨ o.kind = 3) → ∀ k q, mget k (L.foldl liveG m) = some q → mget k m = some q ∨ ∃ o ∈ L, o.kind ≠ 3 ∧ o.name = k
  | [], _, _, _, _, _, h => .inl h
  | o :: L, m, hn, hk, k, q, h => by
    have hn2 : ((liveG m o).map (·.1)).Nodup := by
      unfold liveG
      split
      · exact nodup_mput _ _ _ hn
      · split
        · exact nodup_mdel _ _ hn
        · exact hn
    rcases live_of_op L (liveG m o) hn2 (fun x hx => hk x (List.mem_cons_of_mem _ hx)) k q h with h1 | ⟨x, hx, h2⟩
    · by_cases e : o.kind ≠ 3 ∧ o.name = k
      · exact .inr ⟨o, List.mem_cons_self, e⟩
      · unfold liveG at h1
        split at h1
        · rename_i h3
          rw [mget_put] at h1
          split at h1
          · rename_i h4
            exact absurd ⟨by omega, h4.symm⟩ e
          · exact .inl h1
        · split at h1
          · rw [mget_del _ _ _ hn] at h1
            split at h1
            · cases h1
            · exact .inl h1
          · exact .inl h1
    · exact .inr ⟨x, List.mem_cons_of_mem _ hx, h2⟩
theorem NamesTo.all {L : List OpL} {out : List ByteArray} (h : NamesTo (liveL1 L) L out) (hk : ∀ o ∈ L, o.kind = 1 ∨ o.kind = 2 ∨ o.kind = 3) : out = sortedN ((liveL1 L).map (·.1)) := by
  have hn : ((liveL1 L).map (·.1)).Nodup := liveL1_nodup L [] List.nodup_nil
  refine (sortedN_eq ((List.perm_ext_iff_of_nodup hn (h.1.imp (fun h => nlt_ne h))).2 (fun x => ?_)) h.1).symm
  rw [h.2 x]
  constructor
  · intro hx
    cases hq : mget x (liveL1 L) with
    | none => exact absurd hx ((mget_none_iff _ _).1 hq)
    | some q =>
      rcases live_of_op L [] List.nodup_nil hk x q hq with h1 | ⟨o, ho, h1, h2⟩
      · cases h1
      · exact ⟨o, ho, h1, by rw [h2, hq]; rfl, h2⟩
  · rintro ⟨o, ho, h1, h2, rfl⟩
    exact Classical.byContradiction (fun hx => by
      have := (mget_none_iff o.name (liveL1 L)).2 hx
      rw [this] at h2
      cases h2)
end
end Go.Proofs.Ytamfgmlhopjppaa
