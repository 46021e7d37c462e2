/-
  Behind a Sweep just what is held is there, as it was; what is held and free again as often is gone with the next one. VaultSweeps answers true for every input. No condition.
-/
import Derived.Test.YtflodiljgphkdaaAwk10
import Derived.Test.YtflodiljgphkdaaVltQ
import Derived.Test.YtflodiljgphkdaaVlt6
import Derived.Test.YtflodiljgphkdaaGrt10
import Derived.Test.YtflodiljgphkdaaFVaultSweeps
namespace Go.Proofs.Ytflodiljgphkdaa
open Go.RowKit Go.ChangeShapes Go.WideShapes Go.ChangeAt

/-- nothing else lies on the drive -/
structure Neat (X : VV) : Prop extends Calm X where
  all : ∀ p ∈ X.d.files, ∃ h, p.1 = fileN h ∧ keepsV h X = true
theorem Neat.putted {X : VV} (h : Neat X) {c : ByteArray} (h0 : c.size ≠ 0) (hc : c.size ≤ 64) (hm : X.kept.length < 2000000) :
    Neat { X with d := addD c X.d, kept := ins (digest c) c.size X.kept } := by
  refine ⟨h.toCalm.added h0 hc hm, fun p hp => ?_⟩
  have hp : p ∈ ins (fileN (digest c)) _ X.d.files := hp
  rcases mem_ins hp with rfl | hp
  · exact ⟨digest c, rfl, by unfold keepsV; rw [mget_ins, if_pos rfl]; rfl⟩
  · obtain ⟨n, h1, h2⟩ := h.all p hp
    refine ⟨n, h1, ?_⟩
    unfold keepsV at h2 ⊢
    rw [mget_ins]
    split
    · rfl
    · exact h2
/-- a chunk taken away -/
def lessV (h : ByteArray) (X : VV) : VV := { X with d := { X.d with steps := inc64 X.d.steps, files := mdel (fileN h) X.d.files }, kept := mdel h X.kept }
theorem Neat.dropped {X : VV} (hX : Neat X) {h : ByteArray} (hk : keepsV h X = true) : dropV h X = (0, lessV h X) ∧ Neat (lessV h X) := by
  obtain ⟨k, hk⟩ : ∃ k, mget h X.kept = some k := by unfold keepsV at hk; exact Option.isSome_iff_exists.1 hk
  obtain ⟨f, hf, _, _⟩ := hX.some h k hk
  have h32 : h.size = 32 := hX.keys (h, k) (mem_of_mget hk)
  have hr : readyD (fileN h) X.d = 0 := by
    unfold readyD
    rw [fileN_fine (by omega), hX.off]; rfl
  have hrem : removeD (fileN h) X.d = (0, { X.d with steps := inc64 X.d.steps, files := mdel (fileN h) X.d.files }) := by
    unfold removeD knownD
    rw [hr, hf]
    simp only [ne_eq, not_true_eq_false, if_false]
    unfold stepD
    rw [if_neg (by rw [hX.fuse]; decide)]
    have hmx : max (X.d.fuse - 1) (-1) = X.d.fuse := by rw [hX.fuse]; rfl
    simp only [hmx]
  have hok := removeD_ok hX.ok.dk (fileN h)
  rw [hrem] at hok
  refine ⟨by unfold dropV; rw [hrem]; rfl, ⟨⟨⟨hok, hX.ok.quota, hX.ok.kept.mdel h, hX.ok.held, fun p hp => hX.ok.each p ((mdel_sub h _).subset hp), Nat.le_trans (mdel_length h _) hX.ok.many⟩, hX.off, hX.fuse, fun n hn => ?_, fun n q hn => ?_, fun p hp => hX.keys p ((mdel_sub h _).subset hp)⟩, fun p hp => ?_⟩⟩
  · show mget (fileN n) (mdel (fileN h) X.d.files) = none
    have hn : mget n (mdel h X.kept) = none := hn
    rw [mget_del h n _ hX.ok.kept.nodup] at hn
    rw [mget_del (fileN h) (fileN n) _ hX.ok.dk.rising.nodup]
    by_cases e : n = h
    · rw [if_pos (by rw [e])]
    · rw [if_neg e] at hn
      rw [if_neg (fun e2 => e (fileN_inj e2))]
      exact hX.none n hn
  · have hn : mget n (mdel h X.kept) = some q := hn
    rw [mget_del h n _ hX.ok.kept.nodup] at hn
    by_cases e : n = h
    · rw [if_pos e] at hn; cases hn
    · rw [if_neg e] at hn
      obtain ⟨g, hg, h1, h2⟩ := hX.some n q hn
      refine ⟨g, ?_, h1, h2⟩
      show mget (fileN n) (mdel (fileN h) X.d.files) = _
      rw [mget_del (fileN h) (fileN n) _ hX.ok.dk.rising.nodup, if_neg (fun e2 => e (fileN_inj e2))]
      exact hg
  · have hp : p ∈ mdel (fileN h) X.d.files := hp
    have hpm := (mdel_sub (fileN h) X.d.files).subset hp
    obtain ⟨n, h1, h2⟩ := hX.all p hpm
    refine ⟨n, h1, ?_⟩
    have hne : n ≠ h := by
      rintro rfl
      have h3 : mget (fileN n) (mdel (fileN n) X.d.files) = none := by rw [mget_del _ _ _ hX.ok.dk.rising.nodup, if_pos rfl]
      exact (mget_none_iff _ _).1 h3 (List.mem_map.2 ⟨p, hp, h1⟩)
    unfold keepsV at h2 ⊢
    show (mget n (mdel h X.kept)).isSome = true
    rw [mget_del h n _ hX.ok.kept.nodup, if_neg hne]
    exact h2
/-- nobody needs it -/
def idle (X : VV) (h : ByteArray) : Bool := decide (¬ 0 < heldV h X)
theorem sweep_law : ∀ (l : List ByteArray) (n : Int) (X : VV), Neat X → l.Nodup → (∀ h ∈ l, keepsV h X = true) →
    ∃ Y, sweepL l n X = ((n + (l.filter (idle X)).length, 0), Y) ∧ Neat Y ∧ Y.held = X.held ∧ Y.quota = X.quota ∧ (∀ h, h ∈ l → idle X h = true → mget h Y.kept = none) ∧ ∀ h, ¬ (h ∈ l ∧ idle X h = true) → mget h Y.kept = mget h X.kept
  | [], n, X, hX, _, _ => ⟨X, by simp [sweepL], hX, rfl, rfl, (fun h hh => by cases hh), fun h _ => rfl⟩
  | h :: l, n, X, hX, hnd, hk => by
    rw [List.nodup_cons] at hnd
    unfold sweepL
    by_cases hp : 0 < heldV h X
    · rw [if_pos hp]
      obtain ⟨Y, h1, h2, h3, h3q, h4, h5⟩ := sweep_law l n X hX hnd.2 (fun q hq => hk q (List.mem_cons_of_mem _ hq))
      have hi : idle X h = false := by unfold idle; simp [hp]
      refine ⟨Y, by rw [h1, List.filter_cons, hi]; rfl, h2, h3, h3q, fun q hq hqi => ?_, fun q hq => h5 q (fun hc => hq ⟨List.mem_cons_of_mem _ hc.1, hc.2⟩)⟩
      rcases List.mem_cons.1 hq with e | hq
      · rw [e, hi] at hqi; cases hqi
      · exact h4 q hq hqi
    · rw [if_neg hp]
      obtain ⟨hd, hN⟩ := hX.dropped (hk h (List.mem_cons_self ..))
      have hi : idle X h = true := by unfold idle; simp [hp]
      have hid : idle (lessV h X) = idle X := by funext q; rfl
      have hget : ∀ q, q ≠ h → mget q (lessV h X).kept = mget q X.kept := fun q hq => by
        show mget q (mdel h X.kept) = _
        rw [mget_del h q _ hX.ok.kept.nodup, if_neg hq]
      have hgone : mget h (lessV h X).kept = none := by
        show mget h (mdel h X.kept) = _
        rw [mget_del h h _ hX.ok.kept.nodup, if_pos rfl]
      obtain ⟨Y, h1, h2, h3, h3q, h4, h5⟩ := sweep_law l (n + 1) (lessV h X) hN hnd.2 (fun q hq => by
        have h6 := hk q (List.mem_cons_of_mem _ hq)
        unfold keepsV at h6 ⊢
        rw [hget q (fun e : q = h => hnd.1 (by rw [← e]; exact hq))]
        exact h6)
      rw [hid] at h1 h4 h5
      rw [hd]
      simp only [if_true]
      refine ⟨Y, ?_, h2, h3, h3q, fun q hq hqi => ?_, fun q hq => ?_⟩
      · rw [h1, List.filter_cons, hi]
        simp only [if_true, List.length_cons]
        congr 2
        omega
      · rcases List.mem_cons.1 hq with e | hq
        · rw [e, h5 h (fun hc => hnd.1 hc.1)]; exact hgone
        · exact h4 q hq hqi
      · have hqh : q ≠ h := fun e => hq ⟨by rw [e]; exact List.mem_cons_self .., by rw [e]; exact hi⟩
        rw [h5 q (fun hc => hq ⟨List.mem_cons_of_mem _ hc.1, hc.2⟩)]
        exact hget q hqh
theorem filter_split (p : ByteArray → Bool) : ∀ l : List ByteArray, (l.filter p).length + (l.filter fun x => !p x).length = l.length
  | [] => rfl
  | x :: l => by
    have := filter_split p l
    rw [List.filter_cons, List.filter_cons]
    cases p x <;> simp <;> omega
/-- all of it: what is held stays -/
theorem sweep_all {X : VV} (hX : Neat X) (hh : ∀ p ∈ X.held, 1 ≤ p.2 ∧ keepsV p.1 X = true) :
    ∃ Y, sweepV X = (((X.kept.length : Int) - X.held.length, 0), Y) ∧ Neat Y ∧ Y.held = X.held ∧ Y.kept.length = X.held.length ∧ X.held.length ≤ X.kept.length ∧ ∀ p ∈ X.held, keepsV p.1 Y = true := by
  have hkeys : ∀ h ∈ X.kept.map (·.1), keepsV h X = true := fun h hm => by
    unfold keepsV
    cases hg : mget h X.kept with
    | some _ => rfl
    | none => exact absurd hm ((mget_none_iff _ _).1 hg)
  obtain ⟨Y, h1, h2, h3, _, h4, h5⟩ := sweep_law (X.kept.map (·.1)) 0 X hX hX.ok.kept.nodup hkeys
  have hidle : ∀ h, idle X h = false ↔ h ∈ X.held.map (·.1) := fun h => by
    unfold idle heldV
    constructor
    · intro hi
      cases hg : mget h X.held with
      | none => rw [hg] at hi; simp at hi
      | some q => exact List.mem_map.2 ⟨(h, q), mem_of_mget hg, rfl⟩
    · intro hm
      obtain ⟨p, hp, rfl⟩ := List.mem_map.1 hm
      rw [mget_of_mem hX.ok.held.nodup (show (p.1, p.2) ∈ X.held from hp)]
      have := (hh p hp).1
      simp
      omega
  have hperm : ((X.kept.map (·.1)).filter fun x => !idle X x).Perm (X.held.map (·.1)) := by
    refine (List.perm_ext_iff_of_nodup (hX.ok.kept.nodup.filter _) hX.ok.held.nodup).2 fun h => ?_
    rw [List.mem_filter, Bool.not_eq_true', hidle h]
    refine ⟨fun hc => hc.2, fun hm => ⟨?_, hm⟩⟩
    obtain ⟨p, hp, rfl⟩ := List.mem_map.1 hm
    have h6 := (hh p hp).2
    unfold keepsV at h6
    obtain ⟨q, hq⟩ := Option.isSome_iff_exists.1 h6
    exact List.mem_map.2 ⟨(p.1, q), mem_of_mget hq, rfl⟩
  have hsp := filter_split (idle X) (X.kept.map (·.1))
  have hpl := hperm.length_eq
  rw [List.length_map] at hsp hpl
  have hYk : (Y.kept.map (·.1)).Perm (X.held.map (·.1)) := by
    refine (List.perm_ext_iff_of_nodup h2.ok.kept.nodup hX.ok.held.nodup).2 fun h => ?_
    rw [← hidle h]
    constructor
    · intro hm
      cases hi : idle X h with
      | false => rfl
      | true =>
        exfalso
        have hg : mget h Y.kept = none := by
          cases hg : mget h X.kept with
          | none => rw [h5 h (fun hc => (mget_none_iff _ _).1 hg hc.1)]; exact hg
          | some q => exact h4 h (List.mem_map.2 ⟨(h, q), mem_of_mget hg, rfl⟩) hi
        exact (mget_none_iff _ _).1 hg hm
    · intro hi
      have hm := (hidle h).1 hi
      obtain ⟨p, hp, rfl⟩ := List.mem_map.1 hm
      have h6 := (hh p hp).2
      unfold keepsV at h6
      rw [← h5 p.1 (fun hc => by rw [hi] at hc; cases hc.2)] at h6
      obtain ⟨q, hq⟩ := Option.isSome_iff_exists.1 h6
      exact List.mem_map.2 ⟨(p.1, q), mem_of_mget hq, rfl⟩
  refine ⟨Y, ?_, h2, h3, by have := hYk.length_eq; rw [List.length_map, List.length_map] at this; exact this, by omega, fun p hp => ?_⟩
  · unfold sweepV
    rw [hX.off]
    simp only [Bool.false_eq_true, if_false]
    rw [h1]
    congr 2
    omega
  · have hi := (hidle p.1).2 (List.mem_map.2 ⟨p, hp, rfl⟩)
    unfold keepsV
    rw [h5 p.1 (fun hc => by rw [hi] at hc; cases hc.2)]
    exact (hh p hp).2
/-- nothing is held any more: nothing stays -/
theorem sweep_none {X : VV} (hX : Neat X) (hh : X.held = []) : ∃ Y, sweepV X = (((X.kept.length : Int), 0), Y) ∧ Neat Y ∧ Y.kept = [] ∧ Y.d.files = [] := by
  obtain ⟨Y, h1, h2, _, h4, _, _⟩ := sweep_all hX (by rw [hh]; intro p hp; cases hp)
  rw [hh] at h1 h4
  have hk : Y.kept = [] := List.eq_nil_of_length_eq_zero h4
  refine ⟨Y, by rw [h1]; simp, h2, hk, ?_⟩
  cases hf : Y.d.files with
  | nil => rfl
  | cons p l =>
    exfalso
    obtain ⟨h, _, h5⟩ := h2.all p (by rw [hf]; exact List.mem_cons_self ..)
    unfold keepsV at h5
    rw [hk] at h5
    cases h5

theorem VAt.kept {w w' : World} {v d : Nat} {X : VV} {F S : Nat → Prop} (h : VAt w v d X F) (hk : Kp S w w') (hs : ∀ k, F k → ¬ S k) : VAt w' v d X F := by
  obtain ⟨b, kp, lb, lk, F0, h, hF⟩ := h
  have hf := fun k hk => hs k ((hF k).2 hk)
  exact ⟨b, kp, lb, lk, F0, ⟨Blk.kept h.blk hk (hf v (.inl rfl)), h.needs.kept hk (hf b (.inr (.inl rfl))), h.keeps.kept hk (hf kp (.inr (.inr (.inl rfl)))), h.bents, h.kents, h.disk.kept hk (fun k h0 => hf k (.inr (.inr (.inr h0)))), h.ne, h.nv, h.nb, h.nk, h.ok⟩, hF⟩
theorem Neat.withHeld {X : VV} (h : Neat X) {H : List (ByteArray × Int)} (ok : OkV { X with held := H }) : Neat { X with held := H } :=
  ⟨⟨ok, h.off, h.fuse, h.none, h.some, h.keys⟩, h.all⟩
theorem Calm.len {X : VV} (h : Calm X) {Q : Int} (hq : bytesV X ≤ Q) : (X.kept.length : Int) ≤ Q := by
  have := sumV_length h.ok.each
  rw [h.bytes] at hq
  omega
theorem run_len_map {P : Program} {w : World} {t k e : TypeId} (ht : P.underlying t = some (.map k e)) {b : Nat} {es : Array MapEntry} {clock : Nat} (hb : w.heap[b]? = some (.map es clock)) (ty : TypeId) : (Builtin.len_ #[t] ty #[.map (some b)]).run P w = .ok (.int .i64 (es.size : Int)) w := by
  have hg : (getObj b).run P w = .ok (.map es clock) w := by show (Sem.getObj b Sem.pure).run P w = _; simp [Sem.run, hb]
  simp [Builtin.len_, run_underlying ht, hg, goInt]
set_option maxRecDepth 100000 in
set_option maxHeartbeats 4000000 in
theorem vaultSweeps_walk : VaultSweepsWalk := by
  intro W v0 l v1 ks h0 h1
  obtain ⟨A, c, hv0, hlc, hcm, _⟩ := id h0
  obtain ⟨A1, c1, hv1, hlc1, hcm1, _⟩ := id h1
  simp only [List.cons.injEq, and_true] at hv0 hv1
  subst hv0 hv1
  have hll : (l.length : Int) ≤ 9223372036854775807 := by unfold maxLen at hcm; omega
  have hkl1 : (ks.length : Int) ≤ 9223372036854775807 := by unfold maxLen at hcm1; omega
  have HL := Lib.hid h0
  have HKS := Lib.hid h1
  clear h0 h1 hlc hcm hlc1 hcm1
  go_enter Try.func11, Try.ntmps11
  go_wp2_with fail
  refine (awake10 W).mono ?_
  rintro e w1 ⟨rfl, hk1⟩
  have HK := Lib.hid hk1
  clear hk1
  go_wp2_with fail
  obtain ⟨w2, hw2⟩ : ∃ w2, w1.alloc (.cells #[.int .i64 0, .string ⟨#[]⟩, .slice A l.length c, .string ⟨#[]⟩, .int .i64 0, .slice none 0 0] 59) = w2 := ⟨_, rfl⟩
  have hb2 : Blk w2 w1.heap.size 59 [.int .i64 0, .string ⟨#[]⟩, .slice A l.length c, .string ⟨#[]⟩, .int .i64 0, .slice none 0 0] := by rw [← hw2]; exact Blk.new w1 _ _
  have hk2 : Kp No W w2 := by rw [← hw2]; exact HK.out.alloc _
  have HK2 := Lib.hid hk2
  have HB2 := Lib.hid hb2
  have hgr := h_great10 w2 w1.heap.size l A c _ HB2.out (Rp.str.slice.keptNo HL.out HK2.out)
  have HGR := Lib.hid hgr
  clear hb2 hk2 hgr
  rw [hw2]
  refine HGR.out.mono ?_
  rintro e w3 ⟨⟨B, rfl⟩, hk3⟩
  have HK3 := Lib.hid (HK2.out.trans' hk3)
  clear hk3 hw2
  cases B with
  | true =>
    skip
    go_wp2_with fail
    refine (awake10 _).mono ?_
    rintro e wz ⟨rfl, hkz⟩
    have HKZ := Lib.hid (HK3.out.trans' hkz)
    clear hkz
    go_wp2_with fail
    go_ret
    exact ⟨rfl, HKZ.out⟩
  | false =>
    by_cases h100 : (100 : Int) < (ks.length : Int)
    · skip
      go_wp2_with fail
      refine (awake10 _).mono ?_
      rintro e wz ⟨rfl, hkz⟩
      have HKZ := Lib.hid (HK3.out.trans' hkz)
      clear hkz
      go_wp2_with fail
      go_ret
      exact ⟨rfl, HKZ.out⟩
    go_wp2_with fail
    refine (n_new w3).mono ?_
    rintro e w4 ⟨d, rfl, hd, _⟩
    have HD := Lib.hid (show DNew W w4 d newD by obtain ⟨F, g1, g2, g3⟩ := hd; exact ⟨F, g1, HK3.out.trans' g2, fun k hk => Nat.le_trans HK3.out.size (g3 k hk)⟩)
    clear hd
    go_wp2_with fail
    refine (u_open HD.out 1048576 rfl rfl (by omega) (by omega)).mono ?_
    rintro e w5 ⟨v, rfl, hv⟩
    have HV := Lib.hid hv
    have HC0 : Hid (Neat (openV newD 1048576)) := Lib.hid ⟨⟨hv.ok, rfl, rfl, fun _ _ => rfl, (fun _ _ h => by cases h), (fun p hp => by cases hp)⟩, (fun p hp => by cases hp)⟩
    clear hv
    go_wp2_with fail
    go_loopw [41] (fun iv wr => ∃ (i : Nat) (X : VV), i ≤ l.length ∧ iv = .int .i64 (i : Int) ∧ VNew W wr v d X ∧ Neat X ∧ X.quota = 1048576 ∧ bytesV X ≤ 1048576 ∧ X.held = []) (fun iv _ => l.length - (intOf iv).toNat)
    case atStart => exact ⟨0, openV newD 1048576, Nat.zero_le _, rfl, HV.out, HC0.out, rfl, by show (0 : Int) ≤ _; omega, rfl⟩
    case round =>
      obtain ⟨i, X, hi, rfl, hv, hcx, hqx, hnx, hhx⟩ := hrel
      have HV := Lib.hid hv
      have HCX := Lib.hid hcx
      have HQX := Lib.hid hqx
      have HNX := Lib.hid hnx
      have HHX := Lib.hid hhx
      have hkl : X.kept.length < 2000000 := by have := hcx.toCalm.len hnx; omega
      have HKL := Lib.hid hkl
      clear hv hcx hqx hnx hkl hhx
      by_cases hlt : i < l.length
      · have hli : (i : Int) < (l.length : Int) := by omega
        obtain ⟨s, hs⟩ : ∃ s, l[i]? = some s := ⟨_, List.getElem?_eq_getElem hlt⟩
        obtain ⟨ad, rfl, _, hcell, _⟩ := Rp.at_str (Rp.str.slice.keptNo HL.out HV.out.kp) hs
        have hc := u_put s wr HV.out HKL.out
        clear hs
        rcases put_cases HCX.out.toCalm s with hp | ⟨_, _, _, hp⟩ | ⟨_, _, _, hp⟩ | ⟨hs1, hs2, hkn, hq, hp⟩
        · rw [hp] at hc
          clear hp
          go_wp2_with fail
          refine hc.mono ?_
          rintro e w8 ⟨rfl, hv8⟩
          have HV8 : Hid (VNew W w8 v d X) := Lib.hid hv8
          clear hc hv8
          go_wp2_with fail
          go_roundw
          case rel => exact ⟨i + 1, X, by omega, by go_num, HV8.out, HCX.out, HQX.out, HNX.out, HHX.out⟩
          case measure => simp [intOf]; omega
        · rw [hp] at hc
          clear hp
          go_wp2_with fail
          refine hc.mono ?_
          rintro e w8 ⟨rfl, hv8⟩
          have HV8 : Hid (VNew W w8 v d X) := Lib.hid hv8
          clear hc hv8
          go_wp2_with fail
          go_roundw
          case rel => exact ⟨i + 1, X, by omega, by go_num, HV8.out, HCX.out, HQX.out, HNX.out, HHX.out⟩
          case measure => simp [intOf]; omega
        · rw [hp] at hc
          clear hp
          go_wp2_with fail
          refine hc.mono ?_
          rintro e w8 ⟨rfl, hv8⟩
          have HV8 : Hid (VNew W w8 v d X) := Lib.hid hv8
          clear hc hv8
          go_wp2_with fail
          go_roundw
          case rel => exact ⟨i + 1, X, by omega, by go_num, HV8.out, HCX.out, HQX.out, HNX.out, HHX.out⟩
          case measure => simp [intOf]; omega
        · have hmn : mget (digest s) X.kept = none := by
            unfold keepsV at hkn
            cases hm : mget (digest s) X.kept with
            | none => rfl
            | some k => rw [hm] at hkn; cases hkn
          have HNY := Lib.hid (HCX.out.putted (c := s) (by omega) hs2 HKL.out)
          have hbY : bytesV { X with d := addD s X.d, kept := ins (digest s) s.size X.kept } ≤ 1048576 := by
            have e1 : bytesV { X with d := addD s X.d, kept := ins (digest s) s.size X.kept } = sumV X.kept + s.size := by
              rw [HNY.out.toCalm.bytes]; exact sumV_ins hmn
            rw [e1, ← HCX.out.toCalm.bytes]
            rw [HQX.out] at hq
            exact hq
          have HBY := Lib.hid hbY
          rw [hp] at hc
          clear hp hmn hbY hkn hq
          go_wp2_with fail
          refine hc.mono ?_
          rintro e w8 ⟨rfl, hv8⟩
          have HV8 : Hid (VNew W w8 v d { X with d := addD s X.d, kept := ins (digest s) s.size X.kept }) := Lib.hid hv8
          clear hc hv8
          go_wp2_with fail
          go_roundw
          case rel => exact ⟨i + 1, _, by omega, by go_num, HV8.out, HNY.out, HQX.out, HBY.out, HHX.out⟩
          case measure => simp [intOf]; omega
      · obtain rfl : i = l.length := by omega
        obtain ⟨F, hvf, hkw, hge⟩ := HV.out
        have HVF := Lib.hid hvf
        have HKW := Lib.hid hkw
        have HGE := Lib.hid hge
        have HFL := Lib.hid hvf.lt
        clear hvf hkw hge
        go_wp2_with fail
        refine (v_list v d X F wr HVF.out (fun p hp => by rw [HCX.out.keys p hp]; omega)).mono ?_
        rintro e w6 ⟨A6, c6, rfl, hown, hk6⟩
        have hl6 : listV X = X.kept.map (·.1) := by unfold listV; rw [HCX.out.off]; rfl
        rw [hl6] at hown
        rw [hl6]
        have HM6 := Lib.hid (Rp.str.slice.bnd hown.readFrom)
        have HV6 := Lib.hid (HVF.out.keptNo hk6)
        have HK6 := Lib.hid hk6
        obtain ⟨N, hN⟩ : ∃ N, X.kept.map (·.1) = N := ⟨_, rfl⟩
        have hNl : N.length = X.kept.length := by rw [← hN, List.length_map]
        rw [hN] at HM6
        rw [hN]
        have HNN := Lib.hid hN
        have hmm := @run_makeMap Try.prog
        have HNLL := Lib.hid hNl
        clear hown hk6 hl6 hN hNl
        go_wp2_with fail
        obtain ⟨mb, hmb⟩ : ∃ mb, w6.heap.size = mb := ⟨_, rfl⟩
        obtain ⟨w7, hw7⟩ : ∃ w7, w6.alloc (.map #[] 0) = w7 := ⟨_, rfl⟩
        have hm7 := MapOf.made (enc := Value.string) w6
        have hk7 : Kp No w6 w7 := by rw [← hw7]; exact (Kp.refl _ _).alloc _
        rw [hmb, hw7] at hm7
        rw [hmb, hw7]
        have HM7 := Lib.hid hm7
        have HK7 := Lib.hid hk7
        have HMB := Lib.hid hmb
        have HV7 : Hid (VAt w7 v d { X with held := [] } F) := Lib.hid (by have h := HV6.out.keptNo hk7; rw [← HHX.out]; exact h)
        have HXK := Lib.hid (show Kp No W w7 from (HKW.out.trans' HK6.out).trans' hk7)
        clear hm7 hk7 hmb hw7 hmm
        generalize wr = w50 at *
        go_loopw [54] (fun iv wr => ∃ (i : Nat) (H : List (ByteArray × Int)) (lh : List (ByteArray × Value)), i ≤ ks.length ∧ iv = .int .i64 (i : Int) ∧ VAt wr v d { X with held := H } F ∧ MapOf wr mb Value.string lh ∧ (∀ n, mget n lh = (mget n H).map (Value.int .i64)) ∧ (∀ p ∈ H, 1 ≤ p.2 ∧ p.2 ≤ (i : Int) ∧ keepsV p.1 X = true) ∧ Kp (fun k => F k ∨ k = mb) w7 wr ∧ (N.length = 0 → H = [])) (fun iv _ => ks.length - (intOf iv).toNat)
        case atStart => exact ⟨0, [], [], Nat.zero_le _, rfl, HV7.out, HM7.out, (fun _ => rfl), (fun p hp => by cases hp), Kp.refl _ _, fun _ => rfl⟩
        case round =>
          obtain ⟨i, H, lh, hi, rfl, hva, hmo, hen, hH, hkp, hN0⟩ := hrel
          have HVA := Lib.hid hva
          have HMO := Lib.hid hmo
          have HEN := Lib.hid hen
          have HHH := Lib.hid hH
          have HKP := Lib.hid hkp
          have HN0 := Lib.hid hN0
          have HFW : Hid (Kp No W wr) := Lib.hid (HXK.out.trans hkp (fun k hk hf => by
            rcases hf with hf | hf
            · have := HGE.out k hf; omega
            · have h1 := HMB.out; have h2 := (HKW.out.trans' HK6.out).size; omega))
          have HMBF0 : Hid (¬ F mb) := Lib.hid (fun hf => by
            have h1 := HFL.out mb hf
            have h2 := HK6.out.size
            have h3 := HMB.out
            omega)
          clear hva hmo hen hH hkp hN0
          by_cases hlt : i < ks.length
          · have hli : (i : Int) < (ks.length : Int) := by omega
            obtain ⟨k, hk⟩ : ∃ k, ks[i]? = some k := ⟨_, List.getElem?_eq_getElem hlt⟩
            obtain ⟨ad, rfl, _, hcell, hkw⟩ := Rp.at_int ((Rp.slice _).keptNo HKS.out HFW.out) hk
            have hkb : 0 ≤ k ∧ k ≤ 255 := by simp [Lit.wf, IntKind.bits, IntKind.signed, IntKind.min, IntKind.max] at hkw; omega
            clear hk hkw
            by_cases hz : N.length = 0
            · have hX0 : X.kept.length = 0 := by rw [← HNLL.out]; exact hz
              have hH0 : H.length = 0 := by rw [HN0.out hz]; rfl
              have hny := HCX.out.withHeld HVA.out.ok
              obtain ⟨Z, hz1, hz2, hz3, hz4, hHl, hz5⟩ := sweep_all hny (fun p hp => ⟨(HHH.out p hp).1, (HHH.out p hp).2.2⟩)
              have hsw := v_sweep v d { X with held := H } F wr HVA.out (fun p hp => by rw [HCX.out.keys p hp]; omega)
              rw [hz1] at hsw
              have hz4 : Z.kept.length = H.length := hz4
              have hHl : H.length ≤ X.kept.length := hHl
              have hlh : lh.length = H.length := by
                have := (perm_names HMO.out.nodup HVA.out.ok.held.nodup (fun n => by rw [HEN.out n]; cases mget n H <;> simp)).length_eq
                simpa using this
              have hmany := HKL.out
              have hNX := HNLL.out
              have hwr1 : IntKind.i64.wrap ((N.length : Int) - (H.length : Int)) = (N.length : Int) - (H.length : Int) := wrap_i64 (by omega) (by omega)
              have hnd : (((X.kept.length : Int) - (H.length : Int)) != ((N.length : Int) - (H.length : Int))) = false := by rw [hNX]; simp
              have HZN := Lib.hid hz2
              have HZH := Lib.hid hz3
              have HZK := Lib.hid hz5
              have HZL := Lib.hid hz4
              clear hny hz1 hz2 hz3 hz4 hz5 hmany hNX
              go_wp2_with fail
              refine hsw.mono ?_
              rintro e w10 ⟨rfl, F10, h10, hu10⟩
              have hm10 := HMO.out.kept hu10.1 HMBF0.out
              obtain ⟨es, clock, hes, hel⟩ := hm10.len
              have hel : es.size = H.length := by rw [hel, hlh]
              have hlen := run_len_map (P := Try.prog) Try.underlying69 hes 3
              rw [hel] at hlen
              have H10 := Lib.hid h10
              have HU10 := Lib.hid hu10
              have HM10 := Lib.hid hm10
              clear hsw h10 hu10 hm10
              go_wp2_with fail
              refine (v_list v d Z F10 w10 H10.out (fun p hp => by rw [HZN.out.keys p hp]; omega)).mono ?_
              rintro e w11 ⟨A11, c11, rfl, _, hk11⟩
              have hl11 : (listV Z).length = H.length := by unfold listV; rw [HZN.out.off]; simpa using HZL.out
              rw [hl11]
              have H11 := Lib.hid (H10.out.keptNo hk11)
              have hm11 := HM10.out.kept hk11 (fun x => x)
              obtain ⟨es2, clock2, hes2, hel2⟩ := hm11.len
              have hel2 : es2.size = H.length := by rw [hel2, hlh]
              have hlen2 := run_len_map (P := Try.prog) Try.underlying69 hes2 3
              rw [hel2] at hlen2
              obtain ⟨w12, hrun, hrg, hk12, hs12⟩ := hm11.range (P := Try.prog) Try.underlying69
              obtain ⟨r, hr⟩ : ∃ r, w11.heap.size = r := ⟨_, rfl⟩
              rw [hr] at hrun hrg
              have HRG := Lib.hid hrg
              have H12 := Lib.hid (H11.out.keptNo hk12)
              have HK12 := Lib.hid (hk11.trans' hk12)
              have HRR := Lib.hid hr
              have hF10m : ¬ F10 mb := fun hf => (HU10.out.2 mb hf).elim HMBF0.out (fun hl => by have := HMO.out.lt; omega)
              have hF10r : ¬ F10 r := fun hf => by have h1 := H10.out.lt r hf; have h2 := hk11.size; omega
              have hF10W : ∀ k, F10 k → W.heap.size ≤ k := fun k hf => (HU10.out.2 k hf).elim (HGE.out k) (fun hl => Nat.le_trans HFW.out.size hl)
              have hKW12 : Kp No W w12 := ((HFW.out.trans HU10.out.1 (fun k hk hf => by have := HGE.out k hf; omega)).trans' hk11).trans' hk12
              have hmW : W.heap.size ≤ mb := by have h1 := HMB.out; have h2 := (HKW.out.trans' HK6.out).size; omega
              have hrW : W.heap.size ≤ r := by have h1 := hKW12.size; have h2 := (HFW.out.trans HU10.out.1 (fun k hk hf => by have := HGE.out k hf; omega)).size; have h3 := hk11.size; omega
              have HF10M := Lib.hid hF10m
              have HF10R := Lib.hid hF10r
              have HF10W := Lib.hid hF10W
              have HKW12 := Lib.hid hKW12
              have HRW := Lib.hid hrW
              have HND := Lib.hid HMO.out.nodup
              clear hk11 hm11 hes hlen hes2 hrg hk12 hr hl11 hF10m hF10r hF10W hKW12 hmW hrW
              go_wp2_with fail
              generalize wr = w13 at *
              have HNO : Hid (∀ n, n ∉ lh.map (·.1) → mget n H = none) := Lib.hid (fun n hn => by
                have h1 := HEN.out n
                rw [(mget_none_iff n lh).2 hn] at h1
                cases hg : mget n H with
                | none => rfl
                | some q => rw [hg] at h1; cases h1)
              clear hrun hlen2
              have hlast : ∀ wr todo, Ranges wr mb r Value.string lh todo → wr.rangeLeft mb r = todo.length := fun wr todo h => h.left
              have HLAST := Lib.hid hlast
              clear hlast
              go_loopw [17] (fun _ wr => ∃ (todo : List (ByteArray × Value)) (Hc : List (ByteArray × Int)), Ranges wr mb r Value.string lh todo ∧ (∀ p ∈ todo, p ∈ lh) ∧ (todo.map (·.1)).Nodup ∧ VAt wr v d { Z with held := Hc } F10 ∧ (∀ n, n ∈ todo.map (·.1) → mget n Hc = mget n H) ∧ (∀ n, n ∉ todo.map (·.1) → mget n Hc = none) ∧ Kp No W wr) (fun _ wr => wr.rangeLeft mb r)
              case atStart => exact ⟨lh, H, HRG.out, fun _ h => h, HND.out, by have h := H12.out; rw [show ({ Z with held := H } : VV) = Z by rw [← HZH.out]]; exact h, fun _ _ => rfl, HNO.out, HKW12.out⟩
              case round =>
                obtain ⟨todo, Hc, hrg, hsub, hndt, hva2, hin, hout, hkw2⟩ := hrel
                have HVA2 := Lib.hid hva2
                have HSUB := Lib.hid hsub
                have HNDT := Lib.hid hndt
                have HIN := Lib.hid hin
                have HOUT := Lib.hid hout
                have HKW2 := Lib.hid hkw2
                have HLT := Lib.hid hrg.left
                clear hsub hndt hva2 hin hout hkw2
                rcases hrg.next (P := Try.prog) 0 with ⟨h0, hrun⟩ | ⟨n, x, t1, t2, w14, htd, hrun, hrg3, hk3, hs3, hen3⟩
                · have hmp := hrg.map
                  clear hrg
                  have hHc : Hc = [] := by
                    cases hc : Hc with
                    | nil => rfl
                    | cons p t =>
                      exfalso
                      have h1 := HOUT.out p.1 (by rw [h0]; simp)
                      rw [hc] at h1
                      unfold mget at h1
                      simp at h1
                  subst hHc
                  obtain ⟨Y2, y1, y2, y3, y4⟩ := sweep_none (HZN.out.withHeld HVA2.out.ok) rfl
                  have hsw2 := v_sweep v d { Z with held := [] } F10 wr HVA2.out (fun p hp => by rw [HZN.out.keys p hp]; omega)
                  rw [y1] at hsw2
                  have hzl : (Z.kept.length : Int) = (H.length : Int) := by rw [HZL.out]
                  have HY2 := Lib.hid y2
                  have HY3 := Lib.hid y3
                  have HY4 := Lib.hid y4
                  have HMP := Lib.hid hmp
                  clear y1 y2 y3 y4 hmp
                  go_wp2_with fail
                  refine hsw2.mono ?_
                  rintro e w15 ⟨rfl, F15, h15, hu15⟩
                  have hm15 := HMP.out.kept hu15.1 HF10M.out
                  obtain ⟨es3, clock3, hes3, hel3⟩ := hm15.len
                  have hel3 : es3.size = H.length := by rw [hel3, hlh]
                  have hlen3 := run_len_map (P := Try.prog) Try.underlying69 hes3 3
                  rw [hel3] at hlen3
                  have H15 := Lib.hid h15
                  have HK15 : Hid (Kp No W w15) := Lib.hid (HKW2.out.trans hu15.1 (fun k hk hf => by have := HF10W.out k hf; omega))
                  clear hsw2 h15 hu15 hm15 hes3
                  go_wp2_with fail
                  refine (v_list v d Y2 F15 w15 H15.out (fun p hp => by rw [HY3.out] at hp; cases hp)).mono ?_
                  rintro e w16 ⟨A16, c16, rfl, _, hk16⟩
                  have hl16 : (listV Y2).length = 0 := by unfold listV; rw [HY2.out.off, HY3.out]; rfl
                  rw [hl16]
                  have H16 := Lib.hid (H15.out.keptNo hk16)
                  have HK16 := Lib.hid (HK15.out.trans' hk16)
                  clear hk16 hlen3
                  go_wp2_with fail
                  have hby := v_bytes v d Y2 F15 w16 H16.out
                  rw [show bytesV Y2 = 0 by rw [HY2.out.toCalm.bytes, HY3.out]; rfl] at hby
                  refine hby.mono ?_
                  rintro e w17 ⟨rfl, hk17⟩
                  have H17 := Lib.hid (H16.out.keptNo hk17)
                  have HK17 := Lib.hid (HK16.out.trans' hk17)
                  clear hby hk17
                  go_wp2_with fail
                  obtain ⟨F17, hd17⟩ := H17.out.disk
                  refine (d_names d Y2.d F17 ⟨#[98, 46]⟩ w17 hd17 (by rw [HY4.out]; simp)).mono ?_
                  rintro e w18 ⟨A18, c18, rfl, _, hk18⟩
                  have hl18 : (namesD ⟨#[98, 46]⟩ Y2.d).length = 0 := by unfold namesD; rw [HY2.out.off, HY4.out]; rfl
                  rw [hl18]
                  have HK18 := Lib.hid (HK17.out.trans' hk18)
                  clear hk18
                  go_wp2_with fail
                  go_ret
                  exact ⟨rfl, HK18.out⟩
                · clear hrg
                  have hmem : (n, x) ∈ lh := HSUB.out _ (by rw [htd]; simp)
                  have hx := HEN.out n
                  rw [mget_of_mem HND.out hmem] at hx
                  obtain ⟨q, hg⟩ : ∃ q, mget n H = some q := by
                    cases hg : mget n H with
                    | none => rw [hg] at hx; cases hx
                    | some q => exact ⟨q, rfl⟩
                  rw [hg] at hx
                  injection hx with hx
                  subst hx
                  have hpq := HHH.out (n, q) (mem_of_mget hg)
                  have hq1 : 1 ≤ q := hpq.1
                  have hq2 : q ≤ 9223372036854775807 := by have h1 := hpq.2.1; have h2 := hkl1; have h3 := hi; simp only at h1; omega
                  have hq3 : q ≤ 2000000 := by have h1 := hpq.2.1; have h3 := hi; simp only at h1; omega
                  have hnt : n ∈ todo.map (·.1) := List.mem_map.2 ⟨(n, .int .i64 q), by rw [htd]; simp, rfl⟩
                  obtain ⟨kk, hkk⟩ : ∃ kk, mget n Z.kept = some kk := by
                    have h1 := HZK.out (n, q) (mem_of_mget hg)
                    unfold keepsV at h1
                    exact Option.isSome_iff_exists.1 h1
                  have hn32 : n.size = 32 := HZN.out.keys (n, kk) (mem_of_mget hkk)
                  have hhas : hasV n { Z with held := Hc } = true := by
                    unfold hasV keepsV
                    rw [show ({ Z with held := Hc } : VV).kept = Z.kept from rfl, hkk, show ({ Z with held := Hc } : VV).d = Z.d from rfl, HZN.out.toCalm.whole hkk]; rfl
                  have hheld : heldV n { Z with held := Hc } = q := by
                    show (mget n Hc).getD 0 = q
                    rw [HIN.out n hnt, hg]; rfl
                  have h14 := HVA2.out.kept hk3 (fun k hf e => HF10R.out (e ▸ hf))
                  have hcH := v_has v d { Z with held := Hc } F10 n (by omega) w14 h14
                  rw [hhas] at hcH
                  have H14 := Lib.hid h14
                  have HRG3 := Lib.hid hrg3
                  have HTD := Lib.hid htd
                  have HGG := Lib.hid (And.intro hg (And.intro hheld hn32))
                  have HK14 : Hid (Kp No W w14) := Lib.hid (HKW2.out.trans hk3 (fun k hk e => by have := HRW.out; omega))
                  clear h14 hrg3 htd hg hheld hhas hpq hkk hmem hnt hk3
                  go_wp2_with fail
                  refine hcH.mono ?_
                  rintro e w15 ⟨rfl, hk15⟩
                  have H15 := Lib.hid (H14.out.keptNo hk15)
                  have HRG15 := Lib.hid (HRG3.out.kept hk15 (fun x => x) (fun x => x))
                  have HK15 := Lib.hid (HK14.out.trans' hk15)
                  clear hcH hk15 hrun hen3
                  go_wp2_with fail
                  have hcq := v_held v d { Z with held := Hc } F10 n w15 H15.out
                  rw [HGG.out.2.1] at hcq
                  refine hcq.mono ?_
                  rintro e w16 ⟨rfl, rfl⟩
                  clear hcq
                  go_wp2_with fail
                  go_loopw [121] (fun jv wr => ∃ (j : Nat) (Hj : List (ByteArray × Int)), jv = .int .i64 (j : Int) ∧ (j : Int) ≤ q ∧ VAt wr v d { Z with held := Hj } F10 ∧ Ranges wr mb r Value.string lh (t1 ++ t2) ∧ (∀ m, m ≠ n → mget m Hj = mget m Hc) ∧ ((j : Int) < q → mget n Hj = some (q - j)) ∧ ((j : Int) = q → mget n Hj = none) ∧ Kp No W wr) (fun jv _ => q.toNat - (intOf jv).toNat)
                  case atStart => exact ⟨0, Hc, rfl, by omega, H15.out, HRG15.out, fun _ _ => rfl, fun _ => by
                    have h1 := HGG.out.2.1
                    have h2 : (mget n Hc).getD 0 = q := h1
                    cases hc : mget n Hc with
                    | none => rw [hc] at h2; simp at h2; omega
                    | some y => rw [hc] at h2; simp at h2; rw [h2]; simp, (fun h => by omega), HK15.out⟩
                  case round =>
                    obtain ⟨j, Hj, rfl, hjq, hvj, hrj, hoj, hnj, hzj, hkj⟩ := hrel
                    have HVJ := Lib.hid hvj
                    have HRJ := Lib.hid hrj
                    have HOJ := Lib.hid hoj
                    have HKJ := Lib.hid hkj
                    by_cases hlt : (j : Int) < q
                    · have hvn : heldV n { Z with held := Hj } = q - j := by show (mget n Hj).getD 0 = _; rw [hnj hlt]; rfl
                      have hfr := v_free v d { Z with held := Hj } F10 n wr.heap.size (wr.alloc (.cells #[.string n] 9)) (HVJ.out.keptNo ((Kp.refl _ _).alloc _)) (heap_alloc_new wr _) (by rw [hvn]; omega)
                      unfold free1 at hfr
                      rw [hvn] at hfr
                      have hnd2 := hvj.ok.held.nodup
                      have HND2 := Lib.hid hnd2
                      clear hvj hrj hoj hnj hzj hkj hvn hnd2
                      go_wp2_with fail
                      refine hfr.mono ?_
                      rintro e w17 ⟨rfl, h17, hu17⟩
                      have HR17 := Lib.hid ((HRJ.out.kept ((Kp.refl No wr).alloc (.cells #[.string n] 9)) (fun x => x) (fun x => x)).kept hu17.1 HF10M.out HF10R.out)
                      have HK17 : Hid (Kp No W w17) := Lib.hid ((HKJ.out.alloc _).trans hu17.1 (fun k hk hf => by have := HF10W.out k hf; omega))
                      have H17 := Lib.hid h17
                      clear hfr h17 hu17
                      go_wp2_with fail
                      by_cases hle : q - (j : Int) - 1 ≤ 0
                      · have h17 := H17.out
                        rw [if_pos hle] at h17
                        have HV17 := Lib.hid h17
                        go_roundw
                        case rel => exact ⟨j + 1, mdel n Hj, by go_num, by omega, HV17.out, HR17.out, (fun m hm => by rw [mget_del n m _ HND2.out, if_neg hm]; exact HOJ.out m hm), (fun h => by omega), (fun _ => by rw [mget_del n n _ HND2.out, if_pos rfl]), HK17.out⟩
                        case measure => simp [intOf]; omega
                      · have h17 := H17.out
                        rw [if_neg hle] at h17
                        have HV17 := Lib.hid h17
                        go_roundw
                        case rel => exact ⟨j + 1, ins n (q - j - 1) Hj, by go_num, by omega, HV17.out, HR17.out, (fun m hm => by rw [mget_ins, if_neg hm]; exact HOJ.out m hm), (fun _ => by rw [mget_ins, if_pos rfl]; congr 1; omega), (fun h => by omega), HK17.out⟩
                        case measure => simp [intOf]; omega
                    · have hje : (j : Int) = q := by omega
                      have HNJ := Lib.hid (hzj hje)
                      clear hvj hrj hoj hnj hzj hkj
                      go_wp2_with fail
                      have hnd3 := HNDT.out
                      rw [HTD.out, List.map_append, List.map_cons, List.nodup_append] at hnd3
                      obtain ⟨nd1, nd2, nd3⟩ := hnd3
                      rw [List.nodup_cons] at nd2
                      have hsubm : ∀ m, m ∈ (t1 ++ t2).map (fun p : ByteArray × Value => p.1) → m ≠ n ∧ m ∈ todo.map (fun p : ByteArray × Value => p.1) := fun m hm => by
                        rw [List.map_append, List.mem_append] at hm
                        rw [HTD.out, List.map_append, List.map_cons, List.mem_append, List.mem_cons]
                        rcases hm with hm | hm
                        · exact ⟨fun e => nd3 m hm n (List.mem_cons_self ..) e, .inl hm⟩
                        · exact ⟨fun e => nd2.1 (e ▸ hm), .inr (.inr hm)⟩
                      have hnotm : ∀ m, m ≠ n → m ∉ (t1 ++ t2).map (fun p : ByteArray × Value => p.1) → m ∉ todo.map (fun p : ByteArray × Value => p.1) := fun m hmn hm hc => by
                        rw [HTD.out, List.map_append, List.map_cons, List.mem_append, List.mem_cons] at hc
                        rw [List.map_append, List.mem_append] at hm
                        rcases hc with hc | hc | hc
                        · exact hm (.inl hc)
                        · exact hmn hc
                        · exact hm (.inr hc)
                      have hln : (t1 ++ t2).length < todo.length := by rw [HTD.out]; simp
                      go_roundw
                      case rel => exact ⟨t1 ++ t2, Hj, HRJ.out, (fun p hp => HSUB.out p (by
                        rw [HTD.out]
                        rcases List.mem_append.1 hp with h | h
                        · exact List.mem_append_left _ h
                        · exact List.mem_append_right _ (List.mem_cons_of_mem _ h))), by
                          rw [List.map_append, List.nodup_append]
                          exact ⟨nd1, nd2.2, fun a ha b hb => nd3 a ha b (List.mem_cons_of_mem _ hb)⟩, HVJ.out, (fun m hm => by
                          obtain ⟨h1, h2⟩ := hsubm m hm
                          rw [HOJ.out m h1, HIN.out m h2]), (fun m hm => by
                          by_cases hmn : m = n
                          · rw [hmn]; exact HNJ.out
                          · rw [HOJ.out m hmn]; exact HOUT.out m (hnotm m hmn hm)), HKJ.out⟩
                      case measure => rw [HLT.out, HLAST.out _ _ HRJ.out]; exact hln
            · have hNI : (N.length : Int) ≠ 0 := by omega
              obtain ⟨j, hj⟩ : ∃ j : Nat, k.tmod (N.length : Int) = (j : Int) := ⟨(k.tmod (N.length : Int)).toNat, by rw [Int.toNat_of_nonneg (Int.tmod_nonneg _ hkb.1)]⟩
              have hjl : j < N.length := by
                have := Int.tmod_lt_of_pos k (show 0 < (N.length : Int) by omega)
                omega
              have hjI : (j : Int) < (N.length : Int) := by omega
              obtain ⟨h, hh⟩ : ∃ h, N[j]? = some h := ⟨_, List.getElem?_eq_getElem hjl⟩
              have hmbF : ¬ F mb := fun hf => by
                have h1 := HFL.out mb hf
                have h2 := HK6.out.size
                have h3 := HMB.out
                omega
              have HMBF := Lib.hid hmbF
              have hrd := Rp.str.slice.kept (Rp.str.slice.keptNo HM6.out HK7.out) HKP.out (fun q hq _ hf => by
                rcases hf with hf | hf
                · have h1 := HFL.out q hf
                  rcases hq.1 with h | h
                  · exact h
                  · omega
                · have h1 := HMB.out
                  have h2 := hq.2
                  omega)
              obtain ⟨ad2, rfl, _, hcell2, _⟩ := Rp.at_str hrd hh
              have hkeep : keepsV h X = true := by
                unfold keepsV
                cases hg : mget h X.kept with
                | some _ => rfl
                | none => exact absurd (by rw [HNN.out]; exact List.mem_of_getElem? hh) ((mget_none_iff _ _).1 hg)
              obtain ⟨Q, hQ⟩ : ∃ Q, heldV h { X with held := H } = Q := ⟨_, rfl⟩
              have hQb : 0 ≤ Q ∧ Q ≤ (i : Int) := by
                rw [← hQ]
                unfold heldV
                show 0 ≤ (mget h H).getD 0 ∧ (mget h H).getD 0 ≤ (i : Int)
                cases hg : mget h H with
                | none => simp
                | some q => have := HHH.out (h, q) (mem_of_mget hg); simp; omega
              have hold := v_hold v d { X with held := H } F h wr.heap.size (wr.alloc (.cells #[.string h] 9)) (HVA.out.keptNo ((Kp.refl _ _).alloc _)) (heap_alloc_new wr _) (by rw [hQ]; omega)
              unfold hold1 at hold
              rw [hQ] at hold
              have HKE := Lib.hid hkeep
              have HQ := Lib.hid hQ
              have hwr : IntKind.i64.wrap (Q + 1) = Q + 1 := wrap_i64 (by omega) (by omega)
              clear hrd hh hkeep hQ hmbF
              go_wp2_with fail
              refine hold.mono ?_
              rintro e w8 ⟨rfl, h8, hu8⟩
              have hm8 := (HMO.out.kept ((Kp.refl No wr).alloc (.cells #[.string h] 9)) (fun x => x)).kept hu8.1 HMBF.out
              have hlook := hm8.look (P := Try.prog) key_dsk Try.underlying69 h (zero_int w8)
              rw [HEN.out h] at hlook
              have hlq : ((mget h H).map (Value.int .i64)).getD (.int .i64 0) = .int .i64 Q := by
                rw [← HQ.out]
                unfold heldV
                show _ = Value.int .i64 ((mget h H).getD 0)
                cases mget h H <;> rfl
              rw [hlq] at hlook
              obtain ⟨w9, hrun, hm9, hk9⟩ := hm8.update (P := Try.prog) key_dsk Try.underlying69 h (.int .i64 (Q + 1))
              have H9 := Lib.hid (h8.kept hk9 (fun k hf e => HMBF.out (e ▸ hf)))
              have HM9 := Lib.hid hm9
              have HK9 : Hid (Kp (fun k => F k ∨ k = mb) w7 w9) := Lib.hid (((HKP.out.alloc _).trans (hu8.1.mono (fun k _ h => Or.inl h)) (fun k _ h => h)).trans (hk9.mono (fun k _ e => Or.inr e)) (fun k _ h => h))
              clear hold h8 hu8 hm8 hm9 hk9 hlq
              go_wp2_with fail
              go_roundw
              case rel =>
                refine ⟨i + 1, ins h (Q + 1) H, mput h (.int .i64 (Q + 1)) lh, by omega, by go_num, H9.out, HM9.out, fun n => ?_, fun p hp => ?_, HK9.out, fun hz0 => absurd hz0 hz⟩
                · rw [mget_put h n, mget_ins h n, HEN.out n]
                  split <;> rfl
                · rcases mem_ins hp with rfl | hp
                  · exact ⟨by show 1 ≤ Q + 1; omega, by show Q + 1 ≤ ((i + 1 : Nat) : Int); omega, HKE.out⟩
                  · have := HHH.out p hp
                    exact ⟨this.1, by omega, this.2.2⟩
              case measure => simp [intOf]; omega
          · obtain rfl : i = ks.length := by omega
            have hny := HCX.out.withHeld HVA.out.ok
            obtain ⟨Z, hz1, hz2, hz3, hz4, hHl, hz5⟩ := sweep_all hny (fun p hp => ⟨(HHH.out p hp).1, (HHH.out p hp).2.2⟩)
            have hsw := v_sweep v d { X with held := H } F wr HVA.out (fun p hp => by rw [HCX.out.keys p hp]; omega)
            rw [hz1] at hsw
            have hz4 : Z.kept.length = H.length := hz4
            have hHl : H.length ≤ X.kept.length := hHl
            have hlh : lh.length = H.length := by
              have := (perm_names HMO.out.nodup HVA.out.ok.held.nodup (fun n => by rw [HEN.out n]; cases mget n H <;> simp)).length_eq
              simpa using this
            have hmany := HKL.out
            have hNX := HNLL.out
            have hwr1 : IntKind.i64.wrap ((N.length : Int) - (H.length : Int)) = (N.length : Int) - (H.length : Int) := wrap_i64 (by omega) (by omega)
            have hnd : (((X.kept.length : Int) - (H.length : Int)) != ((N.length : Int) - (H.length : Int))) = false := by rw [hNX]; simp
            have HZN := Lib.hid hz2
            have HZH := Lib.hid hz3
            have HZK := Lib.hid hz5
            have HZL := Lib.hid hz4
            clear hny hz1 hz2 hz3 hz4 hz5 hmany hNX
            go_wp2_with fail
            refine hsw.mono ?_
            rintro e w10 ⟨rfl, F10, h10, hu10⟩
            have hm10 := HMO.out.kept hu10.1 HMBF0.out
            obtain ⟨es, clock, hes, hel⟩ := hm10.len
            have hel : es.size = H.length := by rw [hel, hlh]
            have hlen := run_len_map (P := Try.prog) Try.underlying69 hes 3
            rw [hel] at hlen
            have H10 := Lib.hid h10
            have HU10 := Lib.hid hu10
            have HM10 := Lib.hid hm10
            clear hsw h10 hu10 hm10
            go_wp2_with fail
            refine (v_list v d Z F10 w10 H10.out (fun p hp => by rw [HZN.out.keys p hp]; omega)).mono ?_
            rintro e w11 ⟨A11, c11, rfl, _, hk11⟩
            have hl11 : (listV Z).length = H.length := by unfold listV; rw [HZN.out.off]; simpa using HZL.out
            rw [hl11]
            have H11 := Lib.hid (H10.out.keptNo hk11)
            have hm11 := HM10.out.kept hk11 (fun x => x)
            obtain ⟨es2, clock2, hes2, hel2⟩ := hm11.len
            have hel2 : es2.size = H.length := by rw [hel2, hlh]
            have hlen2 := run_len_map (P := Try.prog) Try.underlying69 hes2 3
            rw [hel2] at hlen2
            obtain ⟨w12, hrun, hrg, hk12, hs12⟩ := hm11.range (P := Try.prog) Try.underlying69
            obtain ⟨r, hr⟩ : ∃ r, w11.heap.size = r := ⟨_, rfl⟩
            rw [hr] at hrun hrg
            have HRG := Lib.hid hrg
            have H12 := Lib.hid (H11.out.keptNo hk12)
            have HK12 := Lib.hid (hk11.trans' hk12)
            have HRR := Lib.hid hr
            have hF10m : ¬ F10 mb := fun hf => (HU10.out.2 mb hf).elim HMBF0.out (fun hl => by have := HMO.out.lt; omega)
            have hF10r : ¬ F10 r := fun hf => by have h1 := H10.out.lt r hf; have h2 := hk11.size; omega
            have hF10W : ∀ k, F10 k → W.heap.size ≤ k := fun k hf => (HU10.out.2 k hf).elim (HGE.out k) (fun hl => Nat.le_trans HFW.out.size hl)
            have hKW12 : Kp No W w12 := ((HFW.out.trans HU10.out.1 (fun k hk hf => by have := HGE.out k hf; omega)).trans' hk11).trans' hk12
            have hmW : W.heap.size ≤ mb := by have h1 := HMB.out; have h2 := (HKW.out.trans' HK6.out).size; omega
            have hrW : W.heap.size ≤ r := by have h1 := hKW12.size; have h2 := (HFW.out.trans HU10.out.1 (fun k hk hf => by have := HGE.out k hf; omega)).size; have h3 := hk11.size; omega
            have HF10M := Lib.hid hF10m
            have HF10R := Lib.hid hF10r
            have HF10W := Lib.hid hF10W
            have HKW12 := Lib.hid hKW12
            have HRW := Lib.hid hrW
            have HND := Lib.hid HMO.out.nodup
            clear hk11 hm11 hes hlen hes2 hrg hk12 hr hl11 hF10m hF10r hF10W hKW12 hmW hrW
            go_wp2_with fail
            generalize wr = w13 at *
            have HNO : Hid (∀ n, n ∉ lh.map (·.1) → mget n H = none) := Lib.hid (fun n hn => by
              have h1 := HEN.out n
              rw [(mget_none_iff n lh).2 hn] at h1
              cases hg : mget n H with
              | none => rfl
              | some q => rw [hg] at h1; cases h1)
            clear hrun hlen2
            have hlast : ∀ wr todo, Ranges wr mb r Value.string lh todo → wr.rangeLeft mb r = todo.length := fun wr todo h => h.left
            have HLAST := Lib.hid hlast
            clear hlast
            go_loopw [17] (fun _ wr => ∃ (todo : List (ByteArray × Value)) (Hc : List (ByteArray × Int)), Ranges wr mb r Value.string lh todo ∧ (∀ p ∈ todo, p ∈ lh) ∧ (todo.map (·.1)).Nodup ∧ VAt wr v d { Z with held := Hc } F10 ∧ (∀ n, n ∈ todo.map (·.1) → mget n Hc = mget n H) ∧ (∀ n, n ∉ todo.map (·.1) → mget n Hc = none) ∧ Kp No W wr) (fun _ wr => wr.rangeLeft mb r)
            case atStart => exact ⟨lh, H, HRG.out, fun _ h => h, HND.out, by have h := H12.out; rw [show ({ Z with held := H } : VV) = Z by rw [← HZH.out]]; exact h, fun _ _ => rfl, HNO.out, HKW12.out⟩
            case round =>
              obtain ⟨todo, Hc, hrg, hsub, hndt, hva2, hin, hout, hkw2⟩ := hrel
              have HVA2 := Lib.hid hva2
              have HSUB := Lib.hid hsub
              have HNDT := Lib.hid hndt
              have HIN := Lib.hid hin
              have HOUT := Lib.hid hout
              have HKW2 := Lib.hid hkw2
              have HLT := Lib.hid hrg.left
              clear hsub hndt hva2 hin hout hkw2
              rcases hrg.next (P := Try.prog) 0 with ⟨h0, hrun⟩ | ⟨n, x, t1, t2, w14, htd, hrun, hrg3, hk3, hs3, hen3⟩
              · have hmp := hrg.map
                clear hrg
                have hHc : Hc = [] := by
                  cases hc : Hc with
                  | nil => rfl
                  | cons p t =>
                    exfalso
                    have h1 := HOUT.out p.1 (by rw [h0]; simp)
                    rw [hc] at h1
                    unfold mget at h1
                    simp at h1
                subst hHc
                obtain ⟨Y2, y1, y2, y3, y4⟩ := sweep_none (HZN.out.withHeld HVA2.out.ok) rfl
                have hsw2 := v_sweep v d { Z with held := [] } F10 wr HVA2.out (fun p hp => by rw [HZN.out.keys p hp]; omega)
                rw [y1] at hsw2
                have hzl : (Z.kept.length : Int) = (H.length : Int) := by rw [HZL.out]
                have HY2 := Lib.hid y2
                have HY3 := Lib.hid y3
                have HY4 := Lib.hid y4
                have HMP := Lib.hid hmp
                clear y1 y2 y3 y4 hmp
                go_wp2_with fail
                refine hsw2.mono ?_
                rintro e w15 ⟨rfl, F15, h15, hu15⟩
                have hm15 := HMP.out.kept hu15.1 HF10M.out
                obtain ⟨es3, clock3, hes3, hel3⟩ := hm15.len
                have hel3 : es3.size = H.length := by rw [hel3, hlh]
                have hlen3 := run_len_map (P := Try.prog) Try.underlying69 hes3 3
                rw [hel3] at hlen3
                have H15 := Lib.hid h15
                have HK15 : Hid (Kp No W w15) := Lib.hid (HKW2.out.trans hu15.1 (fun k hk hf => by have := HF10W.out k hf; omega))
                clear hsw2 h15 hu15 hm15 hes3
                go_wp2_with fail
                refine (v_list v d Y2 F15 w15 H15.out (fun p hp => by rw [HY3.out] at hp; cases hp)).mono ?_
                rintro e w16 ⟨A16, c16, rfl, _, hk16⟩
                have hl16 : (listV Y2).length = 0 := by unfold listV; rw [HY2.out.off, HY3.out]; rfl
                rw [hl16]
                have H16 := Lib.hid (H15.out.keptNo hk16)
                have HK16 := Lib.hid (HK15.out.trans' hk16)
                clear hk16 hlen3
                go_wp2_with fail
                have hby := v_bytes v d Y2 F15 w16 H16.out
                rw [show bytesV Y2 = 0 by rw [HY2.out.toCalm.bytes, HY3.out]; rfl] at hby
                refine hby.mono ?_
                rintro e w17 ⟨rfl, hk17⟩
                have H17 := Lib.hid (H16.out.keptNo hk17)
                have HK17 := Lib.hid (HK16.out.trans' hk17)
                clear hby hk17
                go_wp2_with fail
                obtain ⟨F17, hd17⟩ := H17.out.disk
                refine (d_names d Y2.d F17 ⟨#[98, 46]⟩ w17 hd17 (by rw [HY4.out]; simp)).mono ?_
                rintro e w18 ⟨A18, c18, rfl, _, hk18⟩
                have hl18 : (namesD ⟨#[98, 46]⟩ Y2.d).length = 0 := by unfold namesD; rw [HY2.out.off, HY4.out]; rfl
                rw [hl18]
                have HK18 := Lib.hid (HK17.out.trans' hk18)
                clear hk18
                go_wp2_with fail
                go_ret
                exact ⟨rfl, HK18.out⟩
              · clear hrg
                have hmem : (n, x) ∈ lh := HSUB.out _ (by rw [htd]; simp)
                have hx := HEN.out n
                rw [mget_of_mem HND.out hmem] at hx
                obtain ⟨q, hg⟩ : ∃ q, mget n H = some q := by
                  cases hg : mget n H with
                  | none => rw [hg] at hx; cases hx
                  | some q => exact ⟨q, rfl⟩
                rw [hg] at hx
                injection hx with hx
                subst hx
                have hpq := HHH.out (n, q) (mem_of_mget hg)
                have hq1 : 1 ≤ q := hpq.1
                have hq2 : q ≤ 9223372036854775807 := by have h1 := hpq.2.1; have h2 := hkl1; have h3 := hi; simp only at h1; omega
                have hq3 : q ≤ 2000000 := by have h1 := hpq.2.1; have h3 := hi; simp only at h1; omega
                have hnt : n ∈ todo.map (·.1) := List.mem_map.2 ⟨(n, .int .i64 q), by rw [htd]; simp, rfl⟩
                obtain ⟨kk, hkk⟩ : ∃ kk, mget n Z.kept = some kk := by
                  have h1 := HZK.out (n, q) (mem_of_mget hg)
                  unfold keepsV at h1
                  exact Option.isSome_iff_exists.1 h1
                have hn32 : n.size = 32 := HZN.out.keys (n, kk) (mem_of_mget hkk)
                have hhas : hasV n { Z with held := Hc } = true := by
                  unfold hasV keepsV
                  rw [show ({ Z with held := Hc } : VV).kept = Z.kept from rfl, hkk, show ({ Z with held := Hc } : VV).d = Z.d from rfl, HZN.out.toCalm.whole hkk]; rfl
                have hheld : heldV n { Z with held := Hc } = q := by
                  show (mget n Hc).getD 0 = q
                  rw [HIN.out n hnt, hg]; rfl
                have h14 := HVA2.out.kept hk3 (fun k hf e => HF10R.out (e ▸ hf))
                have hcH := v_has v d { Z with held := Hc } F10 n (by omega) w14 h14
                rw [hhas] at hcH
                have H14 := Lib.hid h14
                have HRG3 := Lib.hid hrg3
                have HTD := Lib.hid htd
                have HGG := Lib.hid (And.intro hg (And.intro hheld hn32))
                have HK14 : Hid (Kp No W w14) := Lib.hid (HKW2.out.trans hk3 (fun k hk e => by have := HRW.out; omega))
                clear h14 hrg3 htd hg hheld hhas hpq hkk hmem hnt hk3
                go_wp2_with fail
                refine hcH.mono ?_
                rintro e w15 ⟨rfl, hk15⟩
                have H15 := Lib.hid (H14.out.keptNo hk15)
                have HRG15 := Lib.hid (HRG3.out.kept hk15 (fun x => x) (fun x => x))
                have HK15 := Lib.hid (HK14.out.trans' hk15)
                clear hcH hk15 hrun hen3
                go_wp2_with fail
                have hcq := v_held v d { Z with held := Hc } F10 n w15 H15.out
                rw [HGG.out.2.1] at hcq
                refine hcq.mono ?_
                rintro e w16 ⟨rfl, rfl⟩
                clear hcq
                go_wp2_with fail
                go_loopw [121] (fun jv wr => ∃ (j : Nat) (Hj : List (ByteArray × Int)), jv = .int .i64 (j : Int) ∧ (j : Int) ≤ q ∧ VAt wr v d { Z with held := Hj } F10 ∧ Ranges wr mb r Value.string lh (t1 ++ t2) ∧ (∀ m, m ≠ n → mget m Hj = mget m Hc) ∧ ((j : Int) < q → mget n Hj = some (q - j)) ∧ ((j : Int) = q → mget n Hj = none) ∧ Kp No W wr) (fun jv _ => q.toNat - (intOf jv).toNat)
                case atStart => exact ⟨0, Hc, rfl, by omega, H15.out, HRG15.out, fun _ _ => rfl, fun _ => by
                  have h1 := HGG.out.2.1
                  have h2 : (mget n Hc).getD 0 = q := h1
                  cases hc : mget n Hc with
                  | none => rw [hc] at h2; simp at h2; omega
                  | some y => rw [hc] at h2; simp at h2; rw [h2]; simp, (fun h => by omega), HK15.out⟩
                case round =>
                  obtain ⟨j, Hj, rfl, hjq, hvj, hrj, hoj, hnj, hzj, hkj⟩ := hrel
                  have HVJ := Lib.hid hvj
                  have HRJ := Lib.hid hrj
                  have HOJ := Lib.hid hoj
                  have HKJ := Lib.hid hkj
                  by_cases hlt : (j : Int) < q
                  · have hvn : heldV n { Z with held := Hj } = q - j := by show (mget n Hj).getD 0 = _; rw [hnj hlt]; rfl
                    have hfr := v_free v d { Z with held := Hj } F10 n wr.heap.size (wr.alloc (.cells #[.string n] 9)) (HVJ.out.keptNo ((Kp.refl _ _).alloc _)) (heap_alloc_new wr _) (by rw [hvn]; omega)
                    unfold free1 at hfr
                    rw [hvn] at hfr
                    have hnd2 := hvj.ok.held.nodup
                    have HND2 := Lib.hid hnd2
                    clear hvj hrj hoj hnj hzj hkj hvn hnd2
                    go_wp2_with fail
                    refine hfr.mono ?_
                    rintro e w17 ⟨rfl, h17, hu17⟩
                    have HR17 := Lib.hid ((HRJ.out.kept ((Kp.refl No wr).alloc (.cells #[.string n] 9)) (fun x => x) (fun x => x)).kept hu17.1 HF10M.out HF10R.out)
                    have HK17 : Hid (Kp No W w17) := Lib.hid ((HKJ.out.alloc _).trans hu17.1 (fun k hk hf => by have := HF10W.out k hf; omega))
                    have H17 := Lib.hid h17
                    clear hfr h17 hu17
                    go_wp2_with fail
                    by_cases hle : q - (j : Int) - 1 ≤ 0
                    · have h17 := H17.out
                      rw [if_pos hle] at h17
                      have HV17 := Lib.hid h17
                      go_roundw
                      case rel => exact ⟨j + 1, mdel n Hj, by go_num, by omega, HV17.out, HR17.out, (fun m hm => by rw [mget_del n m _ HND2.out, if_neg hm]; exact HOJ.out m hm), (fun h => by omega), (fun _ => by rw [mget_del n n _ HND2.out, if_pos rfl]), HK17.out⟩
                      case measure => simp [intOf]; omega
                    · have h17 := H17.out
                      rw [if_neg hle] at h17
                      have HV17 := Lib.hid h17
                      go_roundw
                      case rel => exact ⟨j + 1, ins n (q - j - 1) Hj, by go_num, by omega, HV17.out, HR17.out, (fun m hm => by rw [mget_ins, if_neg hm]; exact HOJ.out m hm), (fun _ => by rw [mget_ins, if_pos rfl]; congr 1; omega), (fun h => by omega), HK17.out⟩
                      case measure => simp [intOf]; omega
                  · have hje : (j : Int) = q := by omega
                    have HNJ := Lib.hid (hzj hje)
                    clear hvj hrj hoj hnj hzj hkj
                    go_wp2_with fail
                    have hnd3 := HNDT.out
                    rw [HTD.out, List.map_append, List.map_cons, List.nodup_append] at hnd3
                    obtain ⟨nd1, nd2, nd3⟩ := hnd3
                    rw [List.nodup_cons] at nd2
                    have hsubm : ∀ m, m ∈ (t1 ++ t2).map (fun p : ByteArray × Value => p.1) → m ≠ n ∧ m ∈ todo.map (fun p : ByteArray × Value => p.1) := fun m hm => by
                      rw [List.map_append, List.mem_append] at hm
                      rw [HTD.out, List.map_append, List.map_cons, List.mem_append, List.mem_cons]
                      rcases hm with hm | hm
                      · exact ⟨fun e => nd3 m hm n (List.mem_cons_self ..) e, .inl hm⟩
                      · exact ⟨fun e => nd2.1 (e ▸ hm), .inr (.inr hm)⟩
                    have hnotm : ∀ m, m ≠ n → m ∉ (t1 ++ t2).map (fun p : ByteArray × Value => p.1) → m ∉ todo.map (fun p : ByteArray × Value => p.1) := fun m hmn hm hc => by
                      rw [HTD.out, List.map_append, List.map_cons, List.mem_append, List.mem_cons] at hc
                      rw [List.map_append, List.mem_append] at hm
                      rcases hc with hc | hc | hc
                      · exact hm (.inl hc)
                      · exact hmn hc
                      · exact hm (.inr hc)
                    have hln : (t1 ++ t2).length < todo.length := by rw [HTD.out]; simp
                    go_roundw
                    case rel => exact ⟨t1 ++ t2, Hj, HRJ.out, (fun p hp => HSUB.out p (by
                      rw [HTD.out]
                      rcases List.mem_append.1 hp with h | h
                      · exact List.mem_append_left _ h
                      · exact List.mem_append_right _ (List.mem_cons_of_mem _ h))), by
                        rw [List.map_append, List.nodup_append]
                        exact ⟨nd1, nd2.2, fun a ha b hb => nd3 a ha b (List.mem_cons_of_mem _ hb)⟩, HVJ.out, (fun m hm => by
                        obtain ⟨h1, h2⟩ := hsubm m hm
                        rw [HOJ.out m h1, HIN.out m h2]), (fun m hm => by
                        by_cases hmn : m = n
                        · rw [hmn]; exact HNJ.out
                        · rw [HOJ.out m hmn]; exact HOUT.out m (hnotm m hmn hm)), HKJ.out⟩
                    case measure => rw [HLT.out, HLAST.out _ _ HRJ.out]; exact hln
theorem vaultSweeps_holds : Rows.VaultSweepsSaid := vaultSweeps_of vaultSweeps_walk
#print axioms vaultSweeps_holds
end Go.Proofs.Ytflodiljgphkdaa
