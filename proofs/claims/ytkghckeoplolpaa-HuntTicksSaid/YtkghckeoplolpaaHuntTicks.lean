/-
  Tick by tick a node asks whom the document says, for what it says: HuntTicks answers true for every input. No condition.
-/
import Derived.Test.YtkghckeoplolpaaT6
import Derived.Test.YtkghckeoplolpaaGen
import Derived.Test.YtkghckeoplolpaaFHuntTicks
namespace Go.Proofs.Ytkghckeoplolpaa
open Go.RowKit Go.ChangeShapes Go.WideShapes Go.ChangeAt

def hWho (me : Int) (t : Nat) (l : List ByteArray) : Int := if l.length = 0 then -1 else hTo me t

theorem h_tick_any (b : Nat) (me : Int) (t : Nat) (l : List ByteArray) (A : Option Addr) (c : Nat) (w : World) (S : Nat → Prop) (h : Hk w b me t) (ht : t ≤ 1000000) (hl : Rp.str.slice.R w S [.slice A l.length c] l) (hS : ¬ S b) (hn2 : l.length ≤ 1000000) :
    Calls Try.prog 12 #[.pointer (some ⟨b, 0, none⟩), .slice A l.length c] w fun e w' =>
      (∃ A' c', e = .returned (.tuple #[.int .i64 (hWho me t l), .slice A' (hGot t l).length c']) ∧ Rp.str.slice.R w' (fun k => S k ∨ w.heap.size ≤ k) [.slice A' (hGot t l).length c'] (hGot t l)) ∧ Hk w' b me (t + 1) ∧ Kp (· = b) w w' := by
  by_cases hn : 0 < l.length
  · refine (h_tick b me t l A c w S h ht hl hS hn hn2).mono ?_
    rintro e w' ⟨⟨A', c', rfl, ho⟩, h1, h2⟩
    refine ⟨⟨A', c', ?_, ho.readFrom⟩, h1, h2⟩
    rw [show hWho me t l = hTo me t from if_neg (by omega)]
  · obtain rfl : l = [] := List.eq_nil_of_length_eq_zero (by omega)
    refine (h_tick_none b me t A c w h ht).mono ?_
    rintro e w' ⟨rfl, h1, h2⟩
    have e0 : hGot t ([] : List ByteArray) = [] := by simp [hGot]
    rw [e0]
    exact ⟨⟨none, 0, rfl, (Own.nil Rp.str w' S w.heap.size 9).readFrom⟩, h1, h2⟩

theorem r19_any (m t : Nat) (l : List ByteArray) (A : Option Addr) (c : Nat) (w : World) (S : Nat → Prop) (hl : Rp.str.slice.R w S [.slice A l.length c] l) (hS : ∀ k, S k → k < w.heap.size) (hm : m ≤ 5) (ht : t ≤ 1000000) (hn2 : l.length ≤ 1000000) :
    Calls Try.prog 19 #[.int .i64 m, .int .i64 t, .slice A l.length c] w fun e w' =>
      (∃ A' c', e = .returned (.tuple #[.int .i64 (hWho m t l), .slice A' (hGot t l).length c']) ∧ Rp.str.slice.R w' (fun k => w.heap.size ≤ k) [.slice A' (hGot t l).length c'] (hGot t l)) ∧ Kp No w w' := by
  by_cases hn : 0 < l.length
  · refine (r19_tick m t l A c w S hl hS hm ht hn hn2).mono ?_
    rintro e w' ⟨⟨A', c', rfl, ho⟩, h2⟩
    refine ⟨⟨A', c', ?_, ho⟩, h2⟩
    rw [show hWho m t l = hTo m t from if_neg (by omega)]
  · obtain rfl : l = [] := List.eq_nil_of_length_eq_zero (by omega)
    refine (r19_none m t A c w).mono ?_
    rintro e w' ⟨rfl, rfl⟩
    have e0 : hGot t ([] : List ByteArray) = [] := by simp [hGot]
    rw [e0]
    have h0 := Own.nil Rp.str w (fun k => w.heap.size ≤ k) w.heap.size 9
    exact ⟨⟨none, 0, rfl, h0.read fun k hk => (h0.lt k hk).1⟩, Kp.refl _ _⟩

set_option maxRecDepth 100000 in
set_option maxHeartbeats 4000000 in
theorem huntTicks_walk : HuntTicksWalk := by
  intro W v0 me v1 L h0 h1
  obtain ⟨h0, w0⟩ := h0
  simp only [List.cons.injEq, and_true] at h0
  subst h0
  obtain ⟨A, c, hv, hr1, hr2, hr3⟩ := id h1
  simp only [List.cons.injEq, and_true] at hv
  subst hv
  have HL := Lib.hid h1
  clear w0 hr3 h1
  by_cases hme : 0 ≤ me ∧ me ≤ 5
  · obtain ⟨m, rfl⟩ : ∃ m : Nat, me = m := ⟨me.toNat, by omega⟩
    have hm5 : m ≤ 5 := by omega
    go_enter Try.func5, Try.ntmps5
    go_wp2_with fail
    refine (h_new (m : Int) _ (by omega) (by omega)).mono ?_
    rintro e w1 ⟨rfl, hb1, hk1⟩
    go_wp2_with fail
    refine (awake19 _).mono ?_
    rintro e w2 ⟨rfl, hk2⟩
    have HB2 := Lib.hid (hb1.kept hk2 (fun x => x))
    have HK2 := Lib.hid (hk1.trans' hk2)
    clear hb1 hk1 hk2
    by_cases hbig : 200 < L.length
    · go_wp2_with fail
      go_ret
      exact ⟨rfl, HK2.out⟩
    · have hL2 : L.length ≤ 200 := by omega
      go_wp2_with fail
      go_loopw [5, 48] (fun v i wr => ∃ k b : Nat, k ≤ L.length ∧ i = .int .i64 k ∧ v = .pointer (some ⟨b, 0, none⟩) ∧ W.heap.size ≤ b ∧ Hk wr b m k ∧ Kp No W wr) (fun _ i _ => L.length - (intOf i).toNat)
      case atStart => exact ⟨0, _, Nat.zero_le _, rfl, rfl, Nat.le_refl _, HB2.out, HK2.out⟩
      case round =>
        obtain ⟨k, b, hk, rfl, rfl, hWb, hb3, hk3⟩ := hrel
        have HB3 := Lib.hid hb3
        have HK3 := Lib.hid hk3
        have hbl := hb3.lt
        clear hb3 hk3 HB2 HK2
        by_cases hlt : k < L.length
        · obtain ⟨l, hl⟩ : ∃ l, L[k]? = some l := ⟨_, List.getElem?_eq_getElem hlt⟩
          obtain ⟨ad, Al, cl, rfl, _, hcell, hl2⟩ := Rp.at_slice HL.out hl
          have hcell3 := HK3.out.cell (p := ad.add k) (lt_of_cell hcell) (fun x => x)
          rw [hcell] at hcell3
          have HL3 := Lib.hid ((Rp.slice _).kept hl2 HK3.out (fun _ _ _ x => x))
          have hm3 := h_many l Al cl wr _ HL3.out
          clear hcell hl2 hl
          by_cases hmany : manyB l = true
          · rw [hmany] at hm3
            go_wp2_with fail
            refine hm3.mono ?_
            rintro e w4 ⟨rfl, rfl⟩
            go_wp2_with fail
            go_ret
            exact ⟨rfl, HK3.out⟩
          · replace hmany : manyB l = false := by simpa using hmany
            have hlen := manyB_length hmany
            rw [hmany] at hm3
            go_wp2_with fail
            refine hm3.mono ?_
            rintro e w4 ⟨rfl, rfl⟩
            clear hm3
            go_wp2_with fail
            refine (h_copy b m k _ HB3.out).mono ?_
            rintro e w5 ⟨rfl, hc5, hk5⟩
            have HC5 := Lib.hid hc5
            have HB5 := Lib.hid (HB3.out.kept hk5 (fun x => x))
            have HL5 := Lib.hid ((Rp.slice _).kept HL3.out hk5 (fun _ _ _ x => x))
            have HK5 := Lib.hid (HK3.out.trans' hk5)
            have hs5 := HC5.out.lt
            have hs3 := HK3.out.size
            clear hc5 hk5 HB3 HL3 HK3
            generalize wr.heap.size = g at *
            go_wp2_with (at_builtin; refine wpList_copy_lit (E := Rp.str) rfl w5 (.tmp 59) (.tmp 60) 22 rfl 9 16 elem_str rfl Al cl (fun k => k < W.heap.size) l rfl HL5.out Rp.str_one (by omega) ?_; intro A6 c6 w6 hown hk6)
            have HO6 := Lib.hid hown.readFrom
            have HB6 := Lib.hid (HB5.out.kept hk6 (fun x => x))
            have HC6 := Lib.hid (HC5.out.kept hk6 (fun x => x))
            have HL6 := Lib.hid ((Rp.slice _).kept HL5.out hk6 (fun _ _ _ x => x))
            have HK6 := Lib.hid (HK5.out.trans' hk6)
            have hs6 := hk6.size
            clear hown hk6 HL5 HB5 HK5 HC5
            refine (h_tick_any b m k l _ _ _ _ HB6.out (by omega) HO6.out (by rintro (h | h) <;> omega) (by omega)).mono ?_
            rintro e w7 ⟨⟨A7, c7, rfl, hg7⟩, hb7, hk7⟩
            have hlt6 := HB6.out.lt
            have HL7 := Lib.hid ((Rp.slice _).kept HL6.out hk7 (by omega))
            have HC7 := Lib.hid (HC6.out.kept hk7 (by omega))
            have HK7 := Lib.hid (HK6.out.trans hk7 (fun i hi e => absurd hi (by omega)))
            have HB7 := Lib.hid hb7
            have hs7 := hk7.size
            have HG7 := Lib.hid hg7
            clear hg7 hb7 hk7 HL6 HC6 HK6 HB6 HO6
            obtain ⟨G, hG⟩ : ∃ G, hGot k l = G := ⟨_, rfl⟩
            obtain ⟨to, hto⟩ : ∃ to, hWho m k l = to := ⟨_, rfl⟩
            have h19 := fun A c w S hl hS => r19_any m k l A c w S hl hS hm5 (by omega) (by omega)
            rw [hG, hto] at h19
            rw [hG] at HG7
            rw [hG, hto]
            clear hG hto
            go_wp2_with fail
            refine (h19 _ _ _ _ HL7.out (by intros; omega)).mono ?_
            rintro e w8 ⟨⟨A8, c8, rfl, hg8⟩, hk8⟩
            have hsame := r_same G G _ _ _ _ w8 _ _ ((Rp.slice _).keptNo HG7.out hk8) hg8
            rw [show decide (G = G) = true from decide_eq_true rfl] at hsame
            have HS := Lib.hid hsame
            have HL8 := Lib.hid ((Rp.slice _).keptNo HL7.out hk8)
            have HC8 := Lib.hid (HC7.out.kept hk8 (fun x => x))
            have HB8 := Lib.hid (HB7.out.kept hk8 (fun x => x))
            have HK8 := Lib.hid (HK7.out.trans' hk8)
            have hs8 := hk8.size
            clear hg8 hk8 hsame h19 HG7 HL7 HC7 HB7 HK7
            go_wp2_with fail
            refine HS.out.mono ?_
            rintro e w9 ⟨rfl, n, rfl⟩
            clear HS
            go_wp2_with fail
            refine (h_turn b m (k + 1) _ (HB8.out.kept ((Kp.refl No _).drewN n) (fun x => x))).mono ?_
            rintro e w9 ⟨rfl, rfl⟩
            have e1 : (((k + 1 : Nat) : Int)) = (k : Int) + 1 := by push_cast; rfl
            have e2 : IntKind.i64.wrap ((k : Int) + 1) = (k : Int) + 1 := by rw [IntKind.wrap_i64]; omega
            have HKD : Hid (Kp No w8 (w8.drewN n)) := Lib.hid ((Kp.refl No _).drewN n)
            rw [e1]
            by_cases h3 : k % 3 = 0
            · have hd : (((k : Int) % 3) == 0) = true := by rw [beq_iff_eq]; omega
              have HL9 := Lib.hid ((Rp.slice _).keptNo HL8.out HKD.out)
              have HC9 := Lib.hid (HC8.out.kept HKD.out (fun x => x))
              have HB9 := Lib.hid (HB8.out.kept HKD.out (fun x => x))
              have HK9 := Lib.hid (HK8.out.trans' HKD.out)
              have hs9 := HKD.out.size
              clear HL8 HC8 HB8 HK8 HKD
              generalize w8.drewN n = w9 at *
              go_wp2_with fail
              obtain ⟨sx, hsx⟩ : ∃ sx : ByteArray, sx = { data := #[120] } := ⟨_, rfl⟩
              rw [← hsx]
              have hx : Rp.str.slice.R (w9.alloc (.cells #[.string sx] 9)) (fun i => w9.heap.size ≤ i) [.slice (some ⟨w9.heap.size, 0, none⟩) [sx].length 1] [sx] :=
                Rp.of_block1 (E := Rp.str) rfl Value.string (heap_alloc_new w9 _) (Nat.le_refl _) rfl (by simp) (by simp [maxLen]) (by intro a ha; simp only [List.mem_cons, List.not_mem_nil, or_false] at ha; subst ha; exact ⟨rfl, by subst hsx; simp [maxLen, ByteArray.size]⟩)
              have hba := HB9.out.kept ((Kp.refl No _).alloc (.cells #[.string sx] 9)) (fun x => x)
              have hkx : Kp No w9 (w9.alloc (.cells #[.string sx] 9)) := (Kp.refl No _).alloc _
              have hb9 := HB9.out.lt
              have hc9 := HC9.out.lt
              refine (h_tick_any b m (k + 1) [sx] _ _ _ _ hba (by omega) hx (by omega) (by simp)).mono ?_
              rintro e w10 ⟨⟨A10, c10, rfl, hg10⟩, hb10, hk10⟩
              have HL10 := Lib.hid ((Rp.slice _).kept HL9.out (hkx.any.trans' hk10) (by intro i hi _; omega))
              have HC10 := Lib.hid ((HC9.out.kept hkx (fun x => x)).kept hk10 (by omega))
              have HK10 := Lib.hid ((HK9.out.trans' hkx).trans hk10 (fun i hi e => absurd hi (by omega)))
              have hs10 := hk10.size
              have hs11 := hkx.size
              clear hg10 hb10 hk10 hkx hba hx HL9 HC9 HB9 HK9 hsx
              go_wp2_with (at_builtin; refine wpList_copy_lit (E := Rp.str) rfl w10 (.tmp 95) (.tmp 96) 22 rfl 9 16 elem_str rfl Al cl (fun k => k < W.heap.size) l rfl HL10.out Rp.str_one (by omega) ?_; intro A11 c11 w11 hown hk11)
              have HO11 := Lib.hid hown.readFrom
              have HC11 := Lib.hid (HC10.out.kept hk11 (fun x => x))
              have HK11 := Lib.hid (HK10.out.trans' hk11)
              have hs11 := hk11.size
              have hgl := HC10.out.lt
              clear hown hk11 HL10 HC10 HK10
              refine (h_tick_any g m k l _ _ _ _ HC11.out (by omega) HO11.out (by rintro (h | h) <;> omega) (by omega)).mono ?_
              rintro e w12 ⟨⟨A12, c12, rfl, _⟩, hc12, hk12⟩
              have HC12 := Lib.hid hc12
              have HK12 := Lib.hid (HK11.out.trans hk12 (fun i hi e => absurd hi (by omega)))
              clear hc12 hk12 HO11 HC11 HK11
              go_wp2_with fail
              go_roundw
              case rel => exact ⟨k + 1, g, by omega, by go_num, rfl, by omega, HC12.out, HK12.out⟩
              case measure => simp [intOf]; omega
            · have hd : (((k : Int) % 3) == 0) = false := by rw [beq_eq_false_iff_ne]; omega
              go_wp2_with fail
              go_roundw
              case rel => exact ⟨k + 1, b, by omega, by go_num, rfl, hWb, HB8.out.kept HKD.out (fun x => x), HK8.out.trans' HKD.out⟩
              case measure => simp [intOf]; omega
        · go_wp2_with fail
          go_ret
          exact ⟨rfl, HK3.out⟩
  · go_enter Try.func5, Try.ntmps5
    go_wp2_with fail
    refine (h_new_bad me _ (by omega)).mono ?_
    rintro e w1 ⟨rfl, rfl⟩
    go_wp2_with fail
    refine (awake19 _).mono ?_
    rintro e w2 ⟨rfl, hk2⟩
    have hd : ((me ≥ 0) && (me ≤ 5)) = false := by simp; omega
    go_wp2_with fail
    all_goals (go_ret; exact ⟨rfl, hk2⟩)
theorem huntTicks_holds : Rows.HuntTicksSaid := huntTicks_of huntTicks_walk
#print axioms huntTicks_holds
end Go.Proofs.Ytkghckeoplolpaa
