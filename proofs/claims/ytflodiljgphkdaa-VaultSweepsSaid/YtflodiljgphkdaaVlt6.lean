/-
  vault: Held; Hold and Free of one text; Sweep.
-/
import Derived.Test.YtflodiljgphkdaaVltN
namespace Go.Proofs.Ytflodiljgphkdaa
open Go.RowKit Go.ChangeShapes Go.WideShapes Go.ChangeAt

def hold1 (h : ByteArray) (X : VV) : VV := { X with held := ins h (heldV h X + 1) X.held }
def free1 (h : ByteArray) (X : VV) : VV := if heldV h X - 1 ≤ 0 then { X with held := mdel h X.held } else { X with held := ins h (heldV h X - 1) X.held }
def sweepL : List ByteArray → Int → VV → (Int × Int) × VV
  | [], n, X => ((n, 0), X)
  | h :: l, n, X => if 0 < heldV h X then sweepL l n X else if (dropV h X).1 = 0 then sweepL l (n + 1) (dropV h X).2 else ((0, (dropV h X).1), (dropV h X).2)
def sweepV (X : VV) : (Int × Int) × VV := if X.d.off then ((0, 50), X) else sweepL (X.kept.map (·.1)) 0 X

theorem VIn.heldPut {w w' : World} {v b d kp : Nat} {lb lk : List (ByteArray × Value)} {X : VV} {F : Nat → Prop} (h : VIn w v b d kp lb lk X F) {n : ByteArray} {q : Int} (hm : MapOf w' b Value.string (mput n (.int .i64 q) lb)) (hk : Kp (· = b) w w') :
    VIn w' v b d kp (mput n (.int .i64 q) lb) lk { X with held := ins n q X.held } F := by
  refine ⟨Blk.kept h.blk hk h.v_ne_b, hm, h.keeps.kept hk h.ne.symm, fun m => ?_, h.kents, h.disk.kept hk (fun k hF e => h.nb (e ▸ hF)), h.ne, h.nv, h.nb, h.nk, ⟨h.ok.dk, h.ok.quota, h.ok.kept, h.ok.held.ins n q, h.ok.each, h.ok.many⟩⟩
  rw [mget_put n m, mget_ins n m, h.bents m]
  split <;> rfl
theorem VIn.heldDel {w w' : World} {v b d kp : Nat} {lb lk : List (ByteArray × Value)} {X : VV} {F : Nat → Prop} (h : VIn w v b d kp lb lk X F) {n : ByteArray} (hm : MapOf w' b Value.string (mdel n lb)) (hk : Kp (· = b) w w') :
    VIn w' v b d kp (mdel n lb) lk { X with held := mdel n X.held } F := by
  refine ⟨Blk.kept h.blk hk h.v_ne_b, hm, h.keeps.kept hk h.ne.symm, fun m => ?_, h.kents, h.disk.kept hk (fun k hF e => h.nb (e ▸ hF)), h.ne, h.nv, h.nb, h.nk, ⟨h.ok.dk, h.ok.quota, h.ok.kept, h.ok.held.mdel n, h.ok.each, h.ok.many⟩⟩
  rw [mget_del n m _ h.needs.nodup, mget_del n m _ h.ok.held.nodup, h.bents m]
  split <;> rfl
theorem VIn.look {w : World} {v b d kp : Nat} {lb lk : List (ByteArray × Value)} {X : VV} {F : Nat → Prop} (h : VIn w v b d kp lb lk X F) (n : ByteArray) :
    (Instr.lookup 69 (.map (some b)) (.string n) false).run Try.prog w = .ok (.int .i64 (heldV n X)) w := by
  have := h.needs.look (P := Try.prog) key_dsk Try.underlying69 n (zero_int w)
  rw [h.bents n] at this
  rw [this]
  unfold heldV
  cases mget n X.held <;> rfl
set_option maxRecDepth 100000 in
theorem v_held (v d : Nat) (X : VV) (F : Nat → Prop) (h : ByteArray) (w : World) (hv : VAt w v d X F) : Calls Try.prog 46 #[.pointer (some ⟨v, 0, none⟩), .string h] w fun e w' => e = .returned (.int .i64 (heldV h X)) ∧ w' = w := by
  obtain ⟨b, kp, lb, lk, F0, hv, _⟩ := hv
  have c0 : w.cell? ⟨v, 0, none⟩ = some (.map (some b)) := Blk.cell hv.blk rfl
  have hlook := hv.look h
  clear hv
  go_enter Try.func46, Try.ntmps46
  go_wp2_with fail
  go_ret
  exact ⟨rfl, rfl⟩
set_option maxRecDepth 100000 in
set_option maxHeartbeats 2000000 in
theorem v_hold1 (v d : Nat) (X : VV) (F : Nat → Prop) (h : ByteArray) (g : Nat) (w : World) (hv : VAt w v d X F) {e : TypeId} {fr : Nat × Nat} (hg : w.heap[g]? = some (.cells #[.string h] e fr)) (hq : 0 ≤ heldV h X ∧ heldV h X ≤ 2000000) :
    Calls Try.prog 82 #[.pointer (some ⟨v, 0, none⟩), .slice (some ⟨g, 0, none⟩) 1 1] w fun e w' => e = .returned (.tuple #[]) ∧ VAt w' v d (hold1 h X) F ∧ Upd F w w' F := by
  obtain ⟨b, kp, lb, lk, F0, hv, hF⟩ := hv
  have H := Lib.hid hv
  have HF := Lib.hid hF
  have c0 : w.cell? ⟨v, 0, none⟩ = some (.map (some b)) := Blk.cell hv.blk rfl
  have cg : w.cell? ⟨g, 0, none⟩ = some (.string h) := by simp [World.cell?, hg]
  have hlook := hv.look h
  have hwr : IntKind.i64.wrap (heldV h X + 1) = heldV h X + 1 := wrap_i64 (by omega) (by omega)
  obtain ⟨w2, hrun, hm2, hk2⟩ := hv.needs.update (P := Try.prog) key_dsk Try.underlying69 h (.int .i64 (heldV h X + 1))
  have H2 := Lib.hid (hv.heldPut hm2 hk2)
  have HK2 := Lib.hid hk2
  unfold hold1
  obtain ⟨Q, hQ⟩ : ∃ Q, heldV h X = Q := ⟨_, rfl⟩
  rw [hQ] at hlook hwr hrun H2 ⊢
  clear hv hF hg hm2 hk2 hq hQ
  go_enter Try.func82, Try.ntmps82
  go_wp2_with fail
  go_loopw [8] (fun iv wr => (iv = .int .i64 0 ∧ wr = w) ∨ (iv = .int .i64 1 ∧ wr = w2)) (fun iv _ => 1 - (intOf iv).toNat)
  case atStart => first | exact .inl ⟨rfl, rfl⟩ | exact .inl ⟨rfl, trivial⟩ | simp
  case round =>
    rcases hrel with ⟨rfl, rfl⟩ | ⟨rfl, rfl⟩
    · go_wp2_with fail
      go_roundw
      case rel => first | exact .inr ⟨rfl, rfl⟩ | exact .inr ⟨rfl, trivial⟩ | simp
      case measure => simp [intOf]
    · clear hrun hlook c0 cg
      go_wp2_with fail
      go_end0
      exact ⟨rfl, ⟨b, kp, _, lk, F0, H2.out, HF.out⟩, HK2.out.mono fun k _ e => (HF.out k).2 (.inr (.inl e)), fun k hk => .inl hk⟩

theorem mdel_none {ν : Type} {n : ByteArray} : ∀ {l : List (ByteArray × ν)}, mget n l = none → mdel n l = l
  | [], _ => rfl
  | (k, y) :: l, h => by
    unfold mget at h
    by_cases e : n = k
    · rw [if_pos e] at h; cases h
    · rw [if_neg e] at h
      unfold mdel
      rw [if_neg e, mdel_none h]
theorem mdel_ins {ν : Type} (n : ByteArray) (x : ν) : ∀ {l : List (ByteArray × ν)}, Rising l → mdel n (ins n x l) = mdel n l
  | [], _ => by simp [ins, mdel]
  | (k, y) :: l, hr => by
    unfold Rising at hr
    rw [List.pairwise_cons] at hr
    by_cases e : n = k
    · subst e; simp [ins, mdel]
    · by_cases h1 : nlt n k
      · have hno : mget n l = none := (mget_none_iff _ _).2 fun hm => by
          obtain ⟨q, hq, e2⟩ := List.mem_map.1 hm
          have := hr.1 q hq
          rw [e2] at this
          exact nlt_asymm h1 this
        simp [ins, e, h1, mdel, mdel_none hno]
      · simp [ins, e, h1, mdel, mdel_ins n x hr.2]
set_option maxRecDepth 100000 in
set_option maxHeartbeats 2000000 in
theorem v_free1 (v d : Nat) (X : VV) (F : Nat → Prop) (h : ByteArray) (g : Nat) (w : World) (hv : VAt w v d X F) {e : TypeId} {fr : Nat × Nat} (hg : w.heap[g]? = some (.cells #[.string h] e fr)) (hq : 0 ≤ heldV h X ∧ heldV h X ≤ 2000000) :
    Calls Try.prog 83 #[.pointer (some ⟨v, 0, none⟩), .slice (some ⟨g, 0, none⟩) 1 1] w fun e w' => e = .returned (.tuple #[]) ∧ VAt w' v d (free1 h X) F ∧ Upd F w w' F := by
  obtain ⟨b, kp, lb, lk, F0, hv, hF⟩ := hv
  have H := Lib.hid hv
  have HF := Lib.hid hF
  have c0 : w.cell? ⟨v, 0, none⟩ = some (.map (some b)) := Blk.cell hv.blk rfl
  have cg : w.cell? ⟨g, 0, none⟩ = some (.string h) := by simp [World.cell?, hg]
  have hlook := hv.look h
  have hwr : IntKind.i64.wrap (heldV h X - 1) = heldV h X - 1 := wrap_i64 (by omega) (by omega)
  obtain ⟨w2, hrun, hm2, hk2⟩ := hv.needs.update (P := Try.prog) key_dsk Try.underlying69 h (.int .i64 (heldV h X - 1))
  have h2 := hv.heldPut hm2 hk2
  have hgb : g ≠ b := by
    rintro rfl
    exact mapOf_ne_cells hv.needs hg rfl
  have c02 : w2.cell? ⟨v, 0, none⟩ = some (.map (some b)) := Blk.cell h2.blk rfl
  have cg2 : w2.cell? ⟨g, 0, none⟩ = some (.string h) := by
    have : w2.heap[g]? = w.heap[g]? := hk2.block g (Array.getElem?_eq_some_iff.1 hg).1 hgb
    simp [World.cell?, this, hg]
  have hlook2 := h2.look h
  have hh2 : heldV h { X with held := ins h (heldV h X - 1) X.held } = heldV h X - 1 := by
    show (mget h (ins h (heldV h X - 1) X.held)).getD 0 = _
    rw [mget_ins, if_pos rfl]; rfl
  rw [hh2] at hlook2
  obtain ⟨w3, hrun3, hm3, hk3⟩ := h2.needs.delete (P := Try.prog) key_dsk Try.underlying69 h 9 0
  have h3 := h2.heldDel hm3 hk3
  have H2 := Lib.hid h2
  have H3 := Lib.hid h3
  have HK2 := Lib.hid hk2
  have HK3 := Lib.hid (hk2.trans hk3 (fun _ _ e => e))
  have HRI := Lib.hid hv.ok.held
  unfold free1
  obtain ⟨Q, hQ⟩ : ∃ Q, heldV h X = Q := ⟨_, rfl⟩
  rw [hQ] at hlook hwr hrun H2 H3 hlook2 ⊢
  clear hv hF hg hm2 hk2 hq hQ hh2 h2 h3 hm3 hk3 hgb
  by_cases hle : Q - 1 ≤ 0
  · rw [if_pos hle]
    go_enter Try.func83, Try.ntmps83
    go_wp2_with fail
    go_loopw [8] (fun iv wr => (iv = .int .i64 0 ∧ wr = w) ∨ (iv = .int .i64 1 ∧ wr = w3)) (fun iv _ => 1 - (intOf iv).toNat)
    case atStart => first | exact .inl ⟨rfl, rfl⟩ | exact .inl ⟨rfl, trivial⟩ | simp
    case round =>
      rcases hrel with ⟨rfl, rfl⟩ | ⟨rfl, rfl⟩
      · go_wp2_with fail
        try rw [hrun3]
        try go_wp2_with fail
        go_roundw
        case rel => first | exact .inr ⟨rfl, rfl⟩ | exact .inr ⟨rfl, trivial⟩ | simp
        case measure => simp [intOf]
      · clear hrun hlook c0 cg hrun3 hlook2 c02 cg2
        go_wp2_with fail
        go_end0
        have e : mdel h (ins h (Q - 1) X.held) = mdel h X.held := mdel_ins h _ HRI.out
        have h3 := H3.out
        simp only [e] at h3
        exact ⟨rfl, ⟨b, kp, _, lk, F0, h3, HF.out⟩, HK3.out.mono fun k _ e => (HF.out k).2 (.inr (.inl e)), fun k hk => .inl hk⟩
  · rw [if_neg hle]
    have hgt : (0 : Int) < Q - 1 := by omega
    clear hrun3
    go_enter Try.func83, Try.ntmps83
    go_wp2_with fail
    go_loopw [8] (fun iv wr => (iv = .int .i64 0 ∧ wr = w) ∨ (iv = .int .i64 1 ∧ wr = w2)) (fun iv _ => 1 - (intOf iv).toNat)
    case atStart => first | exact .inl ⟨rfl, rfl⟩ | exact .inl ⟨rfl, trivial⟩ | simp
    case round =>
      rcases hrel with ⟨rfl, rfl⟩ | ⟨rfl, rfl⟩
      · go_wp2_with fail
        go_roundw
        case rel => first | exact .inr ⟨rfl, rfl⟩ | exact .inr ⟨rfl, trivial⟩ | simp
        case measure => simp [intOf]
      · clear hrun hlook c0 cg hlook2 c02 cg2
        go_wp2_with fail
        go_end0
        exact ⟨rfl, ⟨b, kp, _, lk, F0, H2.out, HF.out⟩, HK2.out.mono fun k _ e => (HF.out k).2 (.inr (.inl e)), fun k hk => .inl hk⟩

set_option maxRecDepth 100000 in
theorem v_hold (v d : Nat) (X : VV) (F : Nat → Prop) (h : ByteArray) (g : Nat) (w : World) (hv : VAt w v d X F) {e : TypeId} {fr : Nat × Nat} (hg : w.heap[g]? = some (.cells #[.string h] e fr)) (hq : 0 ≤ heldV h X ∧ heldV h X ≤ 2000000) :
    Calls Try.prog 43 #[.pointer (some ⟨v, 0, none⟩), .slice (some ⟨g, 0, none⟩) 1 1] w fun e w' => e = .returned (.tuple #[]) ∧ VAt w' v d (hold1 h X) F ∧ Upd F w w' F := by
  have hc := v_hold1 v d X F h g w hv hg hq
  clear hv hg hq
  go_enter Try.func43, Try.ntmps43
  go_wp2_with fail
  refine hc.mono ?_
  rintro e w1 ⟨rfl, h1, h2⟩
  have H1 := Lib.hid (And.intro h1 h2)
  clear hc h1 h2
  go_wp2_with fail
  go_end0
  exact ⟨rfl, H1.out.1, H1.out.2⟩
set_option maxRecDepth 100000 in
theorem v_free (v d : Nat) (X : VV) (F : Nat → Prop) (h : ByteArray) (g : Nat) (w : World) (hv : VAt w v d X F) {e : TypeId} {fr : Nat × Nat} (hg : w.heap[g]? = some (.cells #[.string h] e fr)) (hq : 0 ≤ heldV h X ∧ heldV h X ≤ 2000000) :
    Calls Try.prog 47 #[.pointer (some ⟨v, 0, none⟩), .slice (some ⟨g, 0, none⟩) 1 1] w fun e w' => e = .returned (.tuple #[]) ∧ VAt w' v d (free1 h X) F ∧ Upd F w w' F := by
  have hc := v_free1 v d X F h g w hv hg hq
  clear hv hg hq
  go_enter Try.func47, Try.ntmps47
  go_wp2_with fail
  refine hc.mono ?_
  rintro e w1 ⟨rfl, h1, h2⟩
  have H1 := Lib.hid (And.intro h1 h2)
  clear hc h1 h2
  go_wp2_with fail
  go_end0
  exact ⟨rfl, H1.out.1, H1.out.2⟩

set_option maxRecDepth 100000 in
set_option maxHeartbeats 2000000 in
theorem v_sweep (v d : Nat) (X : VV) (F : Nat → Prop) (w : World) (hv : VAt w v d X F) (hsz : ∀ p ∈ X.kept, p.1.size ≤ 1048576) :
    Calls Try.prog 44 #[.pointer (some ⟨v, 0, none⟩)] w fun e w' => e = .returned (.tuple #[.int .i64 (sweepV X).1.1, .int .i64 (sweepV X).1.2]) ∧ ∃ F', VAt w' v d (sweepV X).2 F' ∧ Upd F w w' F' := by
  have hA := Lib.hid hv
  have hlist := v_list v d X F w hv hsz
  obtain ⟨F0, hd⟩ := hv.disk
  have hdown := d_down d X.d F0 w hd
  have c1 : w.cell? ⟨v, 1, none⟩ = some (.pointer (some ⟨d, 0, none⟩)) := by obtain ⟨b, kp, lb, lk, F1, h, _⟩ := hv; exact Blk.cell h.blk rfl
  have HFL := Lib.hid hv.lt
  have hmany := hv.ok.many
  obtain ⟨Z, hZ⟩ : ∃ Z, sweepV X = Z := ⟨_, rfl⟩
  rw [hZ]
  unfold sweepV at hZ
  cases hoff : X.d.off with
  | true =>
    rw [hoff] at hdown hZ
    simp only [if_true] at hZ
    subst hZ
    clear hv hlist hd hoff
    go_enter Try.func44, Try.ntmps44
    go_wp2_with fail
    refine hdown.mono ?_
    rintro e w1 ⟨rfl, rfl⟩
    clear hdown
    go_wp2_with fail
    go_ret2
    exact ⟨rfl, F, hA.out, Upd.same⟩
  | false =>
    rw [hoff] at hdown hZ
    simp only [Bool.false_eq_true, if_false] at hZ
    have hl : listV X = X.kept.map (·.1) := by unfold listV; rw [hoff]; rfl
    rw [hl] at hlist
    have hszN : ∀ s ∈ X.kept.map (·.1), s.size ≤ 1048576 := fun s hs => by obtain ⟨p, hp, rfl⟩ := List.mem_map.1 hs; exact hsz p hp
    obtain ⟨N, hN⟩ : ∃ N, X.kept.map (·.1) = N := ⟨_, rfl⟩
    have hNl : N.length ≤ 2000000 := by rw [← hN, List.length_map]; exact hmany
    rw [hN] at hlist hZ hszN
    have HZ := Lib.hid hZ
    have HSN := Lib.hid hszN
    clear hv hd hoff hl hZ hN hszN hsz hmany
    go_enter Try.func44, Try.ntmps44
    go_wp2_with fail
    refine hdown.mono ?_
    rintro e w1 ⟨rfl, rfl⟩
    clear hdown
    go_wp2_with fail
    refine hlist.mono ?_
    rintro e w2 ⟨A, c, rfl, hown, hk2⟩
    have HM := Lib.hid hown.readFrom
    have HA2 := Lib.hid (hA.out.keptNo hk2)
    have HK2 := Lib.hid hk2
    clear hlist hown hk2 c1
    go_wp2_with fail
    go_loopw [4, 20] (fun nv iv wr => ∃ (i : Nat) (n : Int) (Y : VV) (F' : Nat → Prop), i ≤ N.length ∧ iv = .int .i64 (i : Int) ∧ nv = .int .i64 n ∧ 0 ≤ n ∧ n ≤ (i : Int) ∧ VAt wr v d Y F' ∧ Upd F w2 wr F' ∧ sweepL (N.drop i) n Y = Z) (fun _ iv _ => N.length - (intOf iv).toNat)
    case atStart => exact ⟨0, 0, X, F, Nat.zero_le _, rfl, rfl, by omega, by omega, HA2.out, Upd.same, HZ.out⟩
    case round =>
      obtain ⟨i, n, Y, F', hi, rfl, rfl, hn0, hni, hva, hu, hz⟩ := hrel
      have HV := Lib.hid hva
      have HU := Lib.hid hu
      by_cases hlt : i < N.length
      · have hli : (i : Int) < (N.length : Int) := by omega
        obtain ⟨h, hh⟩ : ∃ h, N[i]? = some h := ⟨_, List.getElem?_eq_getElem hlt⟩
        have hsh := HSN.out h (List.mem_of_getElem? hh)
        have hdr : N.drop i = h :: N.drop (i + 1) := by obtain ⟨e1, e2⟩ := List.getElem?_eq_some_iff.1 hh; rw [List.drop_eq_getElem_cons e1, e2]
        rw [hdr] at hz
        unfold sweepL at hz
        have hrd := Rp.str.slice.kept HM.out hu.1 (fun k hk _ hf => by
          have h1 := HFL.out k hf
          rcases hk with h | h
          · exact h
          · omega)
        obtain ⟨ad, rfl, _, hcell, _⟩ := Rp.at_str hrd hh
        obtain ⟨b, kp, lb, lk, F1, hvi, hF1⟩ := id hva
        have c0 : wr.cell? ⟨v, 0, none⟩ = some (.map (some b)) := Blk.cell hvi.blk rfl
        have hlook := hvi.look h
        have hwr : IntKind.i64.wrap (n + 1) = n + 1 := wrap_i64 (by omega) (by omega)
        have hdrop := v_drop v d Y F' h hsh wr hva
        clear hh hdr hrd hvi hF1 hva hu hsh
        by_cases hpos : 0 < heldV h Y
        · rw [if_pos hpos] at hz
          have HZZ := Lib.hid hz
          clear hz hdrop
          go_wp2_with fail
          go_roundw
          case rel => exact ⟨i + 1, n, Y, F', by omega, by go_num, rfl, hn0, by omega, HV.out, HU.out, HZZ.out⟩
          case measure => simp [intOf]; omega
        · rw [if_neg hpos] at hz
          obtain ⟨⟨r, Y2⟩, hR⟩ : ∃ R, dropV h Y = R := ⟨_, rfl⟩
          rw [hR] at hz hdrop
          by_cases hr : r = 0
          · subst hr
            simp only [if_true] at hz
            have HZZ := Lib.hid hz
            clear hz hR
            go_wp2_with fail
            refine hdrop.mono ?_
            rintro e w4 ⟨rfl, F4, h4, hu4⟩
            have H4 := Lib.hid h4
            have HU4 := Lib.hid (HU.out.trans hu4)
            clear hdrop h4 hu4 c0 hlook hcell
            go_wp2_with fail
            go_roundw
            case rel => exact ⟨i + 1, n + 1, Y2, F4, by omega, by go_num, by go_num, by omega, by omega, H4.out, HU4.out, HZZ.out⟩
            case measure => simp [intOf]; omega
          · have hrd : (r != 0) = true := by simpa using hr
            simp only [if_neg hr] at hz
            have HZZ := Lib.hid hz
            clear hz hR
            go_wp2_with fail
            refine hdrop.mono ?_
            rintro e w4 ⟨rfl, F4, h4, hu4⟩
            have H4 := Lib.hid h4
            have HU4 := Lib.hid ((Upd.kp HK2.out).trans (HU.out.trans hu4))
            clear hdrop h4 hu4 c0 hlook hcell
            go_wp2_with fail
            go_ret2
            rw [← HZZ.out]
            exact ⟨rfl, F4, H4.out, HU4.out⟩
      · obtain rfl : i = N.length := by omega
        rw [List.drop_length] at hz
        unfold sweepL at hz
        have HZZ := Lib.hid hz
        clear hz hva hu
        go_wp2_with fail
        go_ret2
        rw [← HZZ.out]
        exact ⟨rfl, F', HV.out, (Upd.kp HK2.out).trans HU.out⟩
end Go.Proofs.Ytflodiljgphkdaa
