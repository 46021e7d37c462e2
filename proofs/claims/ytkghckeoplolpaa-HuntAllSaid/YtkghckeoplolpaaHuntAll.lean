/-
  Chunks that stay missing are each asked for, of each other node, within five times as many ticks as they have rows: HuntAll answers true for every input. No condition.
-/
import Derived.Test.YtkghckeoplolpaaT4
import Derived.Test.YtkghckeoplolpaaMap
import Derived.Test.YtkghckeoplolpaaFHuntAll
namespace Go.Proofs.Ytkghckeoplolpaa
open Go.RowKit Go.ChangeShapes Go.WideShapes Go.ChangeAt

/-- Whom, as a number. -/
def hToN (m t : Nat) : Nat := (m + 1 + t % 5) % 6
theorem hTo_eq (m t : Nat) : hTo (m : Int) t = ((hToN m t : Nat) : Int) := by unfold hTo hToN; omega
theorem hToN_lt (m t : Nat) : hToN m t < 6 := Nat.mod_lt _ (by omega)
theorem hToN_ne (m t : Nat) (h : m ≤ 5) : hToN m t ≠ m := by unfold hToN; omega

/-- EACH CHUNK IS ASKED FOR, OF EACH OTHER NODE, within five times as many ticks as there are rows, whatever the turn. -/
theorem all_asked (m T : Nat) (hm : m ≤ 5) (l : List ByteArray) (s : ByteArray) (hs : s ∈ l) (n : Nat) (hn : n < 6) (hne : n ≠ m) :
    ∃ j, j < 5 * ((l.length + 3) / 4) ∧ hToN m (T + j) = n ∧ s ∈ hGot (T + j) l := by
  obtain ⟨p, hp, rfl⟩ := List.mem_iff_getElem.1 hs
  obtain ⟨R, hR⟩ : ∃ R, R = (l.length + 3) / 4 := ⟨_, rfl⟩
  have hρ : p / 4 < R := by omega
  obtain ⟨d, hd, hdn⟩ : ∃ d, d < 5 ∧ (m + 1 + d) % 6 = n := by
    refine ⟨(n + 5 - m) % 6, by omega, by omega⟩
  have hx : 5 * (p / 4) + d < 5 * R := by omega
  have hTm : T % (5 * R) < 5 * R := Nat.mod_lt _ (by omega)
  have hmod : (T + (5 * (p / 4) + d + (5 * R - T % (5 * R))) % (5 * R)) % (5 * R) = 5 * (p / 4) + d := by
    rw [Nat.add_mod, Nat.mod_mod, ← Nat.add_mod]
    have e : T = 5 * R * (T / (5 * R)) + T % (5 * R) := (Nat.div_add_mod T (5 * R)).symm
    have e2 : T + (5 * (p / 4) + d + (5 * R - T % (5 * R))) = (5 * (p / 4) + d) + 5 * R * (T / (5 * R) + 1) := by
      rw [Nat.mul_add, Nat.mul_one]
      omega
    rw [e2, Nat.add_mul_mod_self_left, Nat.mod_eq_of_lt hx]
  refine ⟨(5 * (p / 4) + d + (5 * R - T % (5 * R))) % (5 * R), by rw [← hR]; exact Nat.mod_lt _ (by omega), ?_, ?_⟩
  · generalize T + (5 * (p / 4) + d + (5 * R - T % (5 * R))) % (5 * R) = x at *
    have h5 : x % 5 = d := by
      have := Nat.mod_mul_right_mod x 5 R
      rw [hmod] at this
      omega
    unfold hToN
    rw [h5]; exact hdn
  · generalize T + (5 * (p / 4) + d + (5 * R - T % (5 * R))) % (5 * R) = x at *
    have h6 : x / 5 % R = p / 4 := by
      rw [← Nat.mod_mul_right_div_self, hmod]; omega
    unfold hGot hRow
    rw [← hR, h6]
    refine List.mem_iff_getElem.2 ⟨p % 4, by rw [List.length_take, List.length_drop]; omega, ?_⟩
    rw [List.getElem_take, List.getElem_drop]
    congr 1
    omega

def agg6 (f : Nat → Bool) : Value := .agg #[.bool (f 0), .bool (f 1), .bool (f 2), .bool (f 3), .bool (f 4), .bool (f 5)]
def upd (f : Nat → Bool) (n : Nat) : Nat → Bool := fun i => if i = n then true else f i

/-- amid the asking: k ticks are done -/
def HaRel (W : World) (b B m T : Nat) (l : List ByteArray) (k : Nat) (wr : World) : Prop :=
  Hk wr b m (T + k) ∧ Kp No W wr ∧ ∃ (L : List (ByteArray × Value)) (F : ByteArray → Nat → Bool), MapOf wr B Value.string L ∧ (∀ s, (mget s L).getD (agg6 fun _ => false) = agg6 (F s)) ∧ ∀ j, j < k → ∀ s ∈ hGot (T + j) l, F s (hToN m (T + j)) = true

/-- amid the noting down: of what was asked for now, q are noted -/
def HiRel (B T m : Nat) (l : List ByteArray) (k n : Nat) (G : List ByteArray) (w6 : World) (q : Nat) (wr : World) : Prop :=
  Kp (· = B) w6 wr ∧ ∃ (L : List (ByteArray × Value)) (F : ByteArray → Nat → Bool), MapOf wr B Value.string L ∧ (∀ s, (mget s L).getD (agg6 fun _ => false) = agg6 (F s)) ∧
    (∀ j, j < k → ∀ s ∈ hGot (T + j) l, F s (hToN m (T + j)) = true) ∧ ∀ i, i < q → ∀ s, G[i]? = some s → F s n = true
theorem set6 (f : Nat → Bool) (n : Nat) (hn : n < 6) :
    Value.agg #[([Value.bool (f 0), .bool (f 1), .bool (f 2), .bool (f 3), .bool (f 4), .bool (f 5)].set n (.bool true))[0]'(by simp), ([Value.bool (f 0), .bool (f 1), .bool (f 2), .bool (f 3), .bool (f 4), .bool (f 5)].set n (.bool true))[1]'(by simp),
      ([Value.bool (f 0), .bool (f 1), .bool (f 2), .bool (f 3), .bool (f 4), .bool (f 5)].set n (.bool true))[2]'(by simp), ([Value.bool (f 0), .bool (f 1), .bool (f 2), .bool (f 3), .bool (f 4), .bool (f 5)].set n (.bool true))[3]'(by simp),
      ([Value.bool (f 0), .bool (f 1), .bool (f 2), .bool (f 3), .bool (f 4), .bool (f 5)].set n (.bool true))[4]'(by simp), ([Value.bool (f 0), .bool (f 1), .bool (f 2), .bool (f 3), .bool (f 4), .bool (f 5)].set n (.bool true))[5]'(by simp)] = agg6 (upd f n) := by
  match n, hn with
  | 0, _ => rfl
  | 1, _ => rfl
  | 2, _ => rfl
  | 3, _ => rfl
  | 4, _ => rfl
  | 5, _ => rfl

/-- what is known of all, one of them noted down -/
def updF (F : ByteArray → Nat → Bool) (s : ByteArray) (n : Nat) : ByteArray → Nat → Bool := fun s' => if s' = s then upd (F s) n else F s'
theorem noted {L : List (ByteArray × Value)} {F : ByteArray → Nat → Bool} {z : Value} (h : ∀ s, (mget s L).getD z = agg6 (F s)) (s : ByteArray) (n : Nat) :
    ∀ s', (mget s' (mput s (agg6 (upd (F s) n)) L)).getD z = agg6 (updF F s n s') := by
  intro s'
  rw [mget_put]
  unfold updF
  split
  · rfl
  · exact h s'
theorem grown6 {F : ByteArray → Nat → Bool} (s : ByteArray) (n : Nat) (s' : ByteArray) (i : Nat) (h : F s' i = true) : updF F s n s' i = true := by
  unfold updF
  split
  · rename_i e; subst e; unfold upd; split <;> simp [h]
  · exact h

theorem cell6 (w : World) (f : Nat → Bool) (t : TypeId) (i : Nat) (hi : i < 6) :
    (w.alloc (.cells #[.bool (f 0), .bool (f 1), .bool (f 2), .bool (f 3), .bool (f 4), .bool (f 5)] t)).cell? ⟨w.heap.size, i, none⟩ = some (.bool (f i)) := by
  rw [cell_of_row _ _ _ _ _ (0, 0) (heap_alloc_new w _)]
  match i, hi with
  | 0, _ => rfl
  | 1, _ => rfl
  | 2, _ => rfl
  | 3, _ => rfl
  | 4, _ => rfl
  | 5, _ => rfl

theorem key_str : KeyOk Try.prog 9 Value.string := KeyOk.string Try.underlying9
theorem zero6 (w : World) : (zeroValue 33).run Try.prog w = .ok (agg6 fun _ => false) w := by kernel_rfl

set_option maxRecDepth 100000 in
set_option maxHeartbeats 4000000 in
theorem huntAll_walk : HuntAllWalk := by
  intro W v0 me v1 turn v2 l h0 h1 h2
  obtain ⟨h0, w0⟩ := h0
  obtain ⟨h1, w1⟩ := h1
  simp only [List.cons.injEq, and_true] at h0 h1
  subst h0 h1
  obtain ⟨A, c, hv, hr1, hr2, hr3⟩ := id h2
  simp only [List.cons.injEq, and_true] at hv
  subst hv
  have b0 := bounds_i64 w0
  have b1 := bounds_i64 w1
  have HL := Lib.hid h2
  clear w0 w1 hr3 h2
  obtain ⟨m, hm, hm5⟩ : ∃ m : Nat, wrap64 ((IntKind.u64.wrap me).tmod 6) = m ∧ m ≤ 5 := by
    have h3 : 0 ≤ IntKind.u64.wrap me := by unfold IntKind.wrap; simp [IntKind.signed, IntKind.bits]; omega
    rw [Int.tmod_eq_emod_of_nonneg h3]
    generalize IntKind.u64.wrap me = x at *
    refine ⟨(x % 6).toNat, ?_, by omega⟩
    unfold wrap64; omega
  obtain ⟨T, hT, hT2⟩ : ∃ T : Nat, wrap64 ((IntKind.u64.wrap turn).tmod 200) = T ∧ T < 200 := by
    have h3 : 0 ≤ IntKind.u64.wrap turn := by unfold IntKind.wrap; simp [IntKind.signed, IntKind.bits]; omega
    rw [Int.tmod_eq_emod_of_nonneg h3]
    generalize IntKind.u64.wrap turn = x at *
    refine ⟨(x % 200).toNat, ?_, by omega⟩
    unfold wrap64; omega
  go_enter Try.func3, Try.ntmps3
  go_wp2_with fail
  simp only [hm, hT]
  refine (h_new (m : Int) _ (by omega) (by omega)).mono ?_
  rintro e w1 ⟨rfl, hb1, hk1⟩
  clear hm hT
  go_wp2_with fail
  refine (awake19 _).mono ?_
  rintro e w2 ⟨rfl, hk2⟩
  have HB2 := Lib.hid (hb1.kept hk2 (fun x => x))
  have HK2 := Lib.hid (hk1.trans' hk2)
  have HL2 := Lib.hid ((Rp.slice _).kept HL.out HK2.out (fun _ _ _ x => x))
  clear hb1 hk1 hk2
  by_cases hbig : 100 < l.length
  · go_wp2_with fail
    refine (awake19 _).mono ?_
    rintro e w3 ⟨rfl, hk3⟩
    go_wp2
    go_ret
    exact ⟨rfl, HK2.out.trans' hk3⟩
  · by_cases hmany : manyB l = true
    · have hm3 := h_many l A c w2 _ HL2.out
      rw [hmany] at hm3
      go_wp2_with fail
      refine hm3.mono ?_
      rintro e w3 ⟨rfl, rfl⟩
      go_wp2_with fail
      refine (awake19 _).mono ?_
      rintro e w3 ⟨rfl, hk3⟩
      go_wp2
      go_ret
      exact ⟨rfl, HK2.out.trans' hk3⟩
    · have hm3 := h_many l A c w2 _ HL2.out
      rw [show manyB l = false by simpa using hmany] at hm3
      have HM3 := Lib.hid hm3
      clear hm3 hmany
      go_wp2_with fail
      refine HM3.out.mono ?_
      rintro e w3 ⟨rfl, rfl⟩
      clear HM3
      have hl100 : l.length ≤ 100 := by omega
      go_wp2_with fail
      go_loopw [49] (fun i wr => ∃ k : Nat, k ≤ T ∧ i = .int .i64 k ∧ Hk wr W.heap.size m k ∧ Kp No W wr) (fun i _ => T - (intOf i).toNat)
      case atStart => exact ⟨0, Nat.zero_le _, rfl, HB2.out, HK2.out⟩
      case round =>
        obtain ⟨k, hk, rfl, hb3, hk3⟩ := hrel
        have HB3 := Lib.hid hb3
        have HK3 := Lib.hid hk3
        have hlt3 := hb3.lt
        clear hb3 hk3 HB2 HK2 HL2
        by_cases hlt : k < T
        · go_wp2_with fail
          refine (h_tick_none _ _ _ _ _ _ HB3.out (by omega)).mono ?_
          rintro e w4 ⟨rfl, hb4, hk4⟩
          have HB4 := Lib.hid hb4
          have HK4 : Hid (Kp No W w4) := Lib.hid (HK3.out.trans hk4 (fun i hi h => absurd h (by omega)))
          clear hb4 hk4
          go_wp2_with fail
          go_roundw
          case rel => exact ⟨k + 1, by omega, by go_num, HB4.out, HK4.out⟩
          case measure => simp [intOf]; omega
        · obtain rfl : T = k := by omega
          have hmm := @run_makeMap Try.prog
          go_wp2_with fail
          have hmap := MapOf.made (enc := Value.string) wr
          have HR : Hid (HaRel W W.heap.size wr.heap.size m T l 0 (wr.alloc (.map #[] 0))) :=
            Lib.hid ⟨HB3.out.kept (S := No) ((Kp.refl _ _).alloc _) (fun x => x), HK3.out.alloc _, [], fun _ _ => false, hmap, fun _ => rfl, fun j hj => absurd hj (Nat.not_lt_zero _)⟩
          have hWB := HK3.out.size
          clear hmap hmm HB3 HK3
          generalize wr.heap.size = B at *
          obtain ⟨wo, rfl⟩ : ∃ wo : World, wo = wr := ⟨_, rfl⟩
          go_loopw [60] (fun i wr => ∃ k : Nat, k ≤ 5 * ((l.length + 3) / 4) ∧ i = .int .i64 k ∧ HaRel W W.heap.size B m T l k wr) (fun i _ => 5 * ((l.length + 3) / 4) - (intOf i).toNat)
          case atStart => exact ⟨0, Nat.zero_le _, rfl, HR.out⟩
          case round =>
            obtain ⟨k, hk, rfl, hb4, hk4, L, F, hm4, hF4, hA4⟩ := hrel
            have HB4 := Lib.hid hb4
            have HK4 := Lib.hid hk4
            have HM4 := Lib.hid hm4
            have HF4 := Lib.hid hF4
            have HA4 := Lib.hid hA4
            have hlt4 := hb4.lt
            have hltB := hm4.lt
            clear hb4 hk4 hm4 hF4 hA4 HR
            by_cases hlt : k < 5 * ((l.length + 3) / 4)
            · have hn : 0 < l.length := by omega
              have HL4 := Lib.hid ((Rp.slice _).kept HL.out HK4.out (fun _ _ _ x => x))
              go_wp2_with (at_builtin; refine wpList_copy_lit (E := Rp.str) rfl wr (.tmp 64) (.tmp 65) 22 rfl 9 16 elem_str rfl A c (fun k => k < W.heap.size) l rfl HL4.out Rp.str_one (by omega) ?_; intro A5 c5 w5 hown hk5)
              have HO5 := Lib.hid hown.readFrom
              have HB5 := Lib.hid (HB4.out.kept hk5 (fun x => x))
              have HM5 := Lib.hid (HM4.out.kept hk5 (fun x => x))
              have HK5 := Lib.hid (HK4.out.trans' hk5)
              have hsz5 := hk5.size
              clear hown hk5 HL4 HB4 HM4 HK4
              refine (h_tick W.heap.size m (T + k) l _ _ _ _ HB5.out (by omega) HO5.out (by rintro (h | h) <;> omega) hn (by omega)).mono ?_
              rintro e w6 ⟨⟨A6, c6, rfl, ho6⟩, hb6, hk6⟩
              rw [hTo_eq]
              have hlt5 := HB5.out.lt
              have HG6 := Lib.hid (ho6.str_any No).readFrom
              have HB6 := Lib.hid hb6
              have HM6 := Lib.hid (HM5.out.kept hk6 (by omega))
              have HK6 := Lib.hid (HK5.out.trans hk6 (fun i hi e => absurd hi (by omega)))
              have hG1 : 1 ≤ (hGot (T + k) l).length ∧ (hGot (T + k) l).length ≤ 4 := by
                have := hRow_lt (t := T + k) hn
                unfold hGot
                rw [List.length_take, List.length_drop]
                omega
              have hn6 := hToN_lt m (T + k)
              have hnm := hToN_ne m (T + k) hm5
              clear ho6 hb6 hk6 HO5 HB5 HM5 HK5
              obtain ⟨n, hnn⟩ : ∃ n, hToN m (T + k) = n := ⟨_, rfl⟩
              obtain ⟨G, hGG⟩ : ∃ G, hGot (T + k) l = G := ⟨_, rfl⟩
              rw [hnn] at hn6 hnm
              rw [hGG] at HG6 hG1
              rw [hnn, hGG]
              have HNN := Lib.hid hnn
              have HGG := Lib.hid hGG
              clear hnn hGG
              have hd : ((n : Int) == (m : Int)) = false := by simp; omega
              go_wp2_with fail
              have HI : Hid (HiRel B T m l k n G w6 0 w6) := Lib.hid ⟨Kp.refl _ _, L, F, HM6.out, HF4.out, HA4.out, fun i hi => absurd hi (Nat.not_lt_zero _)⟩
              have hz := fun w => zero6 w
              have hBlt := HM6.out.lt
              obtain ⟨wo2, rfl⟩ : ∃ wo : World, wo = wr := ⟨_, rfl⟩
              go_loopw [93] (fun i wr => ∃ q : Nat, q ≤ G.length ∧ i = .int .i64 q ∧ HiRel B T m l k n G w6 q wr) (fun i _ => G.length - (intOf i).toNat)
              case atStart => exact ⟨0, Nat.zero_le _, rfl, HI.out⟩
              case round =>
                obtain ⟨q, hq, rfl, hk7, L7, F7, hm7, hF7, hA7, hq7⟩ := hrel
                have HK7 := Lib.hid hk7
                have HM7 := Lib.hid hm7
                have HF7 := Lib.hid hF7
                have HA7 := Lib.hid hA7
                have HQ7 := Lib.hid hq7
                have hB7 := hm7.lt
                have hs7 := hk7.size
                clear hk7 hm7 hF7 hA7 hq7 HI
                by_cases hqlt : q < G.length
                · obtain ⟨s, hs⟩ : ∃ s, G[q]? = some s := ⟨_, List.getElem?_eq_getElem hqlt⟩
                  have hg7 := (Rp.slice _).kept HG6.out HK7.out (by rintro i (h | h) _ e; · exact h.elim
                                                                    · omega)
                  obtain ⟨ad, rfl, _, hv, _⟩ := Rp.at_str hg7 hs
                  have hlook := HM7.out.look (P := Try.prog) key_str Try.underlying32 s (hz wr)
                  rw [HF7.out s] at hlook
                  have HS := Lib.hid hs
                  clear hg7 hs hz
                  unfold agg6 at hlook
                  go_wp2_with fail
                  rw [set6 (F7 s) n hn6]
                  have hk8 : Kp No wr (wr.alloc (.cells ([Value.bool (F7 s 0), .bool (F7 s 1), .bool (F7 s 2), .bool (F7 s 3), .bool (F7 s 4), .bool (F7 s 5)].set n (.bool true)).toArray 33)) := (Kp.refl _ _).alloc _
                  obtain ⟨w9, hrun, hm9, hk9⟩ := (HM7.out.kept hk8 (fun x => x)).update (P := Try.prog) key_str Try.underlying32 s (agg6 (upd (F7 s) n))
                  have HM9 := Lib.hid hm9
                  have HK9 := Lib.hid (HK7.out.trans (hk8.any.trans' hk9) (fun i _ h => h))
                  rw [hrun]
                  clear hm9 hk9 hk8 hlook hrun
                  go_wp2_with fail
                  go_roundw
                  case rel => exact ⟨q + 1, by omega, by go_num, HK9.out, _, _, HM9.out, noted HF7.out s n, fun j hj s' hs' => grown6 s n _ _ (HA7.out j hj s' hs'), fun i hi s' hs' => by
                      rcases Nat.lt_or_ge i q with h | h
                      · exact grown6 s n _ _ (HQ7.out i h s' hs')
                      · obtain rfl : i = q := by omega
                        rw [HS.out] at hs'
                        injection hs' with hs'
                        subst hs'
                        simp [updF, upd]⟩
                  case measure => simp [intOf]; omega
                · obtain rfl : q = G.length := by omega
                  go_wp2_with fail
                  go_roundw
                  case rel =>
                    refine ⟨k + 1, by omega, by go_num, ?_⟩
                    have hb8 := HB6.out.kept HK7.out (by omega)
                    refine ⟨hb8, HK6.out.trans HK7.out (fun i hi e => absurd hi (by omega)), L7, F7, HM7.out, HF7.out, fun j hj s' hs' => ?_⟩
                    rcases Nat.lt_or_ge j k with h | h
                    · exact HA7.out j h s' hs'
                    · obtain rfl : j = k := by omega
                      rw [HNN.out]
                      rw [HGG.out] at hs'
                      obtain ⟨i, hi, rfl⟩ := List.mem_iff_getElem.1 hs'
                      exact HQ7.out i hi _ (List.getElem?_eq_getElem hi)
                  case measure => simp only [intOf]; omega
            · have hall : ∀ s ∈ l, ∀ i, i < 6 → i ≠ m → F s i = true := fun s hs i hi hne => by
                obtain ⟨j, hj, hjn, hjs⟩ := all_asked m T hm5 l s hs i hi hne
                rw [← hjn]
                exact HA4.out j (by omega) s hjs
              have HALL := Lib.hid hall
              have hz := fun w => zero6 w
              clear hall HA4
              go_wp2_with fail
              obtain ⟨wx, rfl⟩ : ∃ wo : World, wo = wr := ⟨_, rfl⟩
              go_loopw [109] (fun i wr => ∃ q : Nat, q ≤ l.length ∧ i = .int .i64 q ∧ Kp No wx wr) (fun i _ => l.length - (intOf i).toNat)
              case atStart => exact ⟨0, Nat.zero_le _, rfl, Kp.refl _ _⟩
              case round =>
                obtain ⟨q, hq, rfl, hk7⟩ := hrel
                have HK7 := Lib.hid hk7
                clear hk7
                by_cases hqlt : q < l.length
                · obtain ⟨s, hs⟩ : ∃ s, l[q]? = some s := ⟨_, List.getElem?_eq_getElem hqlt⟩
                  have hl7 := (Rp.slice _).kept HL.out (HK4.out.trans' HK7.out) (fun _ _ _ x => x)
                  obtain ⟨ad, rfl, _, hv, _⟩ := Rp.at_str hl7 hs
                  have hlook := (HM4.out.kept HK7.out (fun x => x)).look (P := Try.prog) key_str Try.underlying32 s (hz wr)
                  rw [HF4.out s] at hlook
                  have HS := Lib.hid (List.mem_of_getElem? hs)
                  clear hl7 hs hz
                  unfold agg6 at hlook
                  go_wp2_with fail
                  go_loop [116] (fun i => ∃ p : Nat, p ≤ 6 ∧ i = .int .i64 p) (fun i => 6 - (intOf i).toNat)
                  case atStart => exact ⟨0, Nat.zero_le _, rfl⟩
                  case round =>
                    obtain ⟨p, hp, rfl⟩ := hrel
                    clear hlook
                    by_cases hp6 : p < 6
                    · have hcell := cell6 wr (F s) 33 p hp6
                      by_cases hpm : p = m
                      · subst hpm
                        go_wp2_with fail
                        go_round
                        case rel => exact ⟨p + 1, by omega, by go_num⟩
                        case measure => simp [intOf]; omega
                      · have hF := HALL.out s HS.out p hp6 hpm
                        rw [hF] at hcell
                        have hd : ((p : Int) != (m : Int)) = true := by simp; omega
                        go_wp2_with fail
                        go_round
                        case rel => exact ⟨p + 1, by omega, by go_num⟩
                        case measure => simp [intOf]; omega
                    · go_wp2_with fail
                      go_roundw
                      case rel => exact ⟨q + 1, by omega, by go_num, HK7.out.alloc _⟩
                      case measure => simp [intOf]; omega
                · clear hz
                  go_wp2_with fail
                  go_ret
                  exact ⟨rfl, HK4.out.trans' HK7.out⟩
theorem huntAll_holds : Rows.HuntAllSaid := huntAll_of huntAll_walk
#print axioms huntAll_holds
end Go.Proofs.Ytkghckeoplolpaa
