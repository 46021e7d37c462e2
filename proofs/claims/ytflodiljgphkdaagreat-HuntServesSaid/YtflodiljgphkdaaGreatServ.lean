/-
  hunt.Serve with a vault and a bucket.
-/
import Derived.Test.YtflodiljgphkdaaGreatVltG
import Derived.Test.YtflodiljgphkdaaGreatBkt
import Derived.Test.YtflodiljgphkdaaGreatM1
namespace Go.Proofs.YtflodiljgphkdaaGreat
open Go.RowKit Go.ChangeShapes Go.WideShapes Go.ChangeAt

/-- what goes out, the vault behind it, what is left -/
def serveV : List ByteArray → VV → Int → List ByteArray × VV × Int
  | [], X, n => ([], X, n)
  | h :: t, X, n =>
    if (getV h X).1.2 ≠ 0 then serveV t (getV h X).2 n
    else if n < ((getV h X).1.1.size : Int) then ([], (getV h X).2, n)
    else ((getV h X).1.1 :: (serveV t (getV h X).2 (n - ((getV h X).1.1.size : Int))).1, (serveV t (getV h X).2 (n - ((getV h X).1.1.size : Int))).2)
/-- amid it -/
def SvRel (l : List ByteArray) (X : VV) (n : Int) (k : Nat) (O : List ByteArray) (Z : VV) (m : Int) : Prop :=
  serveV l X n = (O ++ (serveV (l.drop k) Z m).1, (serveV (l.drop k) Z m).2)
theorem drop_cons {α : Type} {l : List α} {k : Nat} {h : α} (hk : l[k]? = some h) : l.drop k = h :: l.drop (k + 1) := by
  obtain ⟨e1, e2⟩ := List.getElem?_eq_some_iff.1 hk
  rw [List.drop_eq_getElem_cons e1, e2]
namespace SvRel
variable {l O : List ByteArray} {X Z : VV} {n m : Int} {k : Nat} {h : ByteArray}
theorem zero : SvRel l X n 0 [] X n := by unfold SvRel; simp
theorem skip (hr : SvRel l X n k O Z m) (hk : l[k]? = some h) (he : (getV h Z).1.2 ≠ 0) : SvRel l X n (k + 1) O (getV h Z).2 m := by
  unfold SvRel at *
  rw [hr, drop_cons hk, serveV, if_pos he]
theorem stop (hr : SvRel l X n k O Z m) (hk : l[k]? = some h) (he : (getV h Z).1.2 = 0) (hs : m < ((getV h Z).1.1.size : Int)) : serveV l X n = (O, (getV h Z).2, m) := by
  unfold SvRel at *
  rw [hr, drop_cons hk, serveV, if_neg (by simp [he]), if_pos hs]
  simp
theorem more (hr : SvRel l X n k O Z m) (hk : l[k]? = some h) (he : (getV h Z).1.2 = 0) (hs : ¬ m < ((getV h Z).1.1.size : Int)) : SvRel l X n (k + 1) (O ++ [(getV h Z).1.1]) (getV h Z).2 (m - ((getV h Z).1.1.size : Int)) := by
  unfold SvRel at *
  rw [hr, drop_cons hk, serveV, if_neg (by simp [he]), if_neg hs]
  simp
theorem done (hr : SvRel l X n l.length O Z m) : serveV l X n = (O, Z, m) := by
  unfold SvRel at hr
  rw [hr, List.drop_length]
  simp [serveV]
end SvRel
/-- all rows but a vault's and the bucket are as they were -/
def KpB (kb : Nat) (w w' : World) : Prop := ∃ T, Kp T w w' ∧ ∀ (g : Nat) cs (e : TypeId) fr, w.heap[g]? = some (.cells cs e fr) → T g → VT e ∨ g = kb
namespace KpB
variable {kb : Nat} {w w' a b c : World}
theorem refl (kb : Nat) (w : World) : KpB kb w w := ⟨No, Kp.refl _ _, fun _ _ _ _ _ h => h.elim⟩
theorem size (h : KpB kb w w') : w.heap.size ≤ w'.heap.size := by obtain ⟨_, h, _⟩ := h; exact h.size
theorem vault (h : KpB kb a b) (k : KpV b c) : KpB kb a c := by
  obtain ⟨T1, h1, h2⟩ := h
  obtain ⟨T2, k1, k2⟩ := k
  refine ⟨fun g => T1 g ∨ T2 g, (h1.mono fun _ _ h => .inl h).trans k1 fun _ _ h => .inr h, fun g cs e fr hg ht => ?_⟩
  by_cases h3 : T1 g
  · exact h2 g cs e fr hg h3
  · have hlt : g < a.heap.size := (Array.getElem?_eq_some_iff.1 hg).1
    exact .inl (k2 g cs e fr ((h1.block g hlt h3).trans hg) (ht.resolve_left h3))
theorem step {S : Nat → Prop} (h : KpB kb a b) (k : Kp S b c) (hs : ∀ g, S g → a.heap.size ≤ g ∨ g = kb) : KpB kb a c := by
  obtain ⟨T1, h1, h2⟩ := h
  refine ⟨fun g => T1 g ∨ g = kb, (h1.mono fun _ _ h => .inl h).trans k fun g hg h => .inr ((hs g h).resolve_left (by omega)), fun g cs e fr hg ht => ?_⟩
  rcases ht with h3 | h3
  · exact h2 g cs e fr hg h3
  · exact .inr h3
theorem no (h : KpB kb a b) (k : Kp No b c) : KpB kb a c := h.step k fun _ h => h.elim
theorem sl {S : Nat → Prop} {cs : List Value} {l : List ByteArray} (h : KpB kb w w') (hl : Rp.str.slice.R w S cs l) (hS : ∀ k, S k → ∃ cs e fr, w.heap[k]? = some (.cells cs e fr) ∧ ¬ VT e) (hb : ¬ S kb) : Rp.str.slice.R w' S cs l := by
  obtain ⟨T, h1, h2⟩ := h
  refine Rp.str.slice.kept hl h1 fun k hk _ ht => ?_
  obtain ⟨cs, e, fr, hc, he⟩ := hS k hk
  rcases h2 k cs e fr hc ht with h | h
  · exact he h
  · exact hb (h ▸ hk)
end KpB
theorem own_ne_bk {α : Type} {E : Rp α} {w : World} {S : Nat → Prop} {base : Nat} {e : TypeId} {v : Value} {l : List α} {kb : Nat} {r u s : Int} (h : Own E w S base e v l) (hb : Bk w kb r u s) (he : e ≠ 102) : ∀ k, v.ownBlock = some k → k ≠ kb := by
  rintro k hk rfl
  obtain ⟨cs, hc⟩ := h.block hk
  have := hb.1
  rw [hc] at this
  injection this with this
  injection this with _ this
  exact he this
theorem el_strS : Elem Tryz.prog 22 9 1 16 := Elem.of Tryz.underlying22 (z := .string ByteArray.empty) (by kernel_rfl) rfl (by decide)
theorem take1 (h x : Int) (h0 : 0 ≤ x) : take h [x] = if h < x then (0, h) else (1, h - x) := by
  unfold take
  by_cases hx : h < x
  · rw [if_pos (.inr hx), if_pos hx]
  · rw [if_neg (by omega), if_neg hx]; simp [take]
theorem list1 {k : IntKind} (x : Int) (hx : (Lit.int k x).wf = true) (w : World) (ty : TypeId) : (Rp.int k).slice.R (w.alloc (.cells #[.int k x] ty)) (· = w.heap.size) [.slice (some ⟨w.heap.size, 0, none⟩) 1 1] [x] := by
  refine Rp.of_block (l := [x]) (heap_alloc_new w _) rfl rfl (Nat.le_refl _) (by show 1 ≤ maxLen; decide) ?_
  intro y hy
  simp only [List.mem_cons, List.not_mem_nil, or_false] at hy
  subst hy
  exact hx

theorem wf_size (n : Nat) (h : n ≤ 64) : (Lit.int .i64 (n : Int)).wf = true := by
  simp [Lit.wf, IntKind.min, IntKind.max, IntKind.bits, IntKind.signed]; omega
set_option maxRecDepth 100000 in
set_option maxHeartbeats 4000000 in
theorem h_serve {w0 : World} {v d : Nat} {X : VV} {kb : Nat} {r u s0 : Int} (l : List ByteArray) (A : Option Addr) (c : Nat) (w : World) (S : Nat → Prop) (hv : VNew w0 w v d X) (hb : Bk w kb r u s0) (hkb : w0.heap.size ≤ kb)
    (hl : Rp.str.slice.R w S [.slice A l.length c] l) (hS : ∀ k, S k → ∃ cs e fr, w.heap[k]? = some (.cells cs e fr) ∧ ¬ VT e) (hSb : ¬ S kb) (hll : l.length ≤ 1000000) (hls : ∀ x ∈ l, x.size ≤ 1048576) :
    Calls Tryz.prog 19 #[.pointer (some ⟨v, 0, none⟩), .pointer (some ⟨kb, 0, none⟩), .slice A l.length c] w fun e w' => ∃ Ao co O Z m, serveV l X (u - s0) = (O, Z, m) ∧ e = .returned (.slice Ao O.length co) ∧ Own Rp.str w' No w.heap.size 9 (.slice Ao O.length co) O ∧ VNew w0 w' v d Z ∧ Bk w' kb r u (u - m) ∧ KpB kb w w' := by
  have HL := Lib.hid hl
  have HS := Lib.hid hS
  have HSB := Lib.hid hSb
  have HLS := Lib.hid hls
  have HV := Lib.hid hv
  have HW0 := Lib.hid hv.kp.size
  have HB := Lib.hid hb
  have HKB := Lib.hid hkb
  clear hl hS hSb hls hv hb hkb
  obtain ⟨n0, hn0⟩ : ∃ n0, u - s0 = n0 := ⟨_, rfl⟩
  have HBK : Hid (Bk w kb r u (u - n0)) := Lib.hid (by rw [show u - n0 = s0 by omega]; exact HB.out)
  rw [hn0]
  clear hn0 HB
  go_enter Tryz.func19, Tryz.ntmps19
  go_wp2_with fail
  go_loopw [7, 14] (fun ov iv wr => ∃ (k : Nat) (O : List ByteArray) (Z : VV) (m : Int), k ≤ l.length ∧ iv = .int .i64 (k : Int) ∧ Own Rp.str wr No w.heap.size 9 ov O ∧ VNew w0 wr v d Z ∧ Bk wr kb r u (u - m) ∧ Hid (KpB kb w wr) ∧ Hid (SvRel l X n0 k O Z m) ∧ O.length ≤ k) (fun _ iv _ => l.length - (intOf iv).toNat)
  case atStart => exact ⟨0, [], X, n0, Nat.zero_le _, rfl, Own.nil _ _ _ _ _, HV.out, HBK.out, Lib.hid (KpB.refl _ _), Lib.hid SvRel.zero, Nat.le_refl _⟩
  case round =>
    clear HV HBK
    obtain ⟨k, O, Z, m, hk, rfl, hown, hv, hb, HKP, HR, hol⟩ := hrel
    obtain ⟨Av, cv, rfl⟩ := hown.shape
    have HO := Lib.hid hown
    have HV := Lib.hid hv
    have HB := Lib.hid hb
    have HOL := Lib.hid hol
    clear hown hv hb hol
    by_cases hlt : k < l.length
    · have hli : (k : Int) < (l.length : Int) := by omega
      obtain ⟨x, hx⟩ : ∃ x, l[k]? = some x := ⟨_, List.getElem?_eq_getElem hlt⟩
      obtain ⟨ad, rfl, _, hcell, _⟩ := Rp.at_str (HKP.out.sl HL.out HS.out HSB.out) hx
      have hc := g_get x wr HV.out (HLS.out x (List.mem_of_getElem? hx))
      have hcs := getV_cases x Z
      have hsk := fun he => HR.out.skip hx he
      have hst := fun he hs => HR.out.stop hx he hs
      have hmo := fun he hs => HR.out.more hx he hs
      obtain ⟨R, hR⟩ : ∃ R, getV x Z = R := ⟨_, rfl⟩
      rw [hR] at hc hcs hsk hst hmo
      have HC := Lib.hid hc
      have HCS := Lib.hid hcs
      have HSK := Lib.hid hsk
      have HST := Lib.hid hst
      have HMO := Lib.hid hmo
      clear hx hc hcs hsk hst hmo hR HR
      go_wp2_with fail
      refine HC.out.mono ?_
      rintro e w2 ⟨rfl, hv, hkv⟩
      have HV2 := Lib.hid hv
      have HO2 := Lib.hid (hkv.own HO.out (by decide))
      have HB2 : Hid (Bk w2 kb r u (u - m)) := Lib.hid ⟨hkv.blk (vs := [_, _, _]) HB.out.1 (by decide), HB.out.2⟩
      have HK2 := Lib.hid (HKP.out.vault hkv)
      clear hv hkv HC hcell HO HV HB HKP
      rcases HCS.out with ⟨s, hs, hs0, hs64, hsd⟩ | ⟨er, her, hne⟩
      · rw [hs] at HST HMO
        rw [hs]
        have hss : (s.size : Int) ≤ 64 := by omega
        by_cases hms : m < (s.size : Int)
        · have hfin := HST.out rfl hms
          have HF := Lib.hid hfin
          have ht := b_take kb r u (u - m) [(s.size : Int)] (some ⟨w2.heap.size, 0, none⟩) 1 (w2.alloc (.cells #[.int .i64 (s.size : Int)] 3)) (fun k => k = w2.heap.size) (HB2.out.kept ((Kp.refl No w2).alloc _) (fun x => x)) (list1 _ (wf_size _ hs64) w2 3) (fun h => by have := HB2.out.lt; omega)
          rw [show u - (u - m) = m by omega, take1 _ _ (by omega), if_pos hms] at ht
          have HT := Lib.hid ht
          clear hs hs0 hs64 hsd hfin ht HST HMO HSK HCS hms
          go_wp2_with fail
          refine HT.out.mono ?_
          rintro e w3 ⟨rfl, hb3, hk3⟩
          have hb3 : Bk w3 kb r u (u - m) := hb3
          have HBK3 := Lib.hid hb3
          have hk2 : Kp (· = kb) w2 w3 := ((Kp.refl (· = kb) w2).alloc _).trans hk3 (fun i hi e => e)
          have HV3 := Lib.hid (HV2.out.others hk2 (by rintro k rfl; exact HKB.out) (by rintro k rfl; exact ⟨_, _, _, HB2.out.1, by decide⟩))
          have HO3 := Lib.hid (HO2.out.kept hk2 (fun _ h => h.elim) (fun k hk => own_ne_bk HO2.out HB2.out (by decide) k hk))
          have HK3 := Lib.hid (HK2.out.step hk2 (fun g hg => .inr hg))
          clear hb3 hk3 hk2 HT HV2 HO2 HK2 HB2
          go_wp2_with fail
          go_ret
          exact ⟨_, _, O, R.2, m, HF.out, rfl, HO3.out, HV3.out, HBK3.out, HK3.out⟩
        · have hrel := HMO.out rfl (by first | exact hms | exact Int.not_lt.1 hms)
          have HR := Lib.hid hrel
          have ht := b_take kb r u (u - m) [(s.size : Int)] (some ⟨w2.heap.size, 0, none⟩) 1 (w2.alloc (.cells #[.int .i64 (s.size : Int)] 3)) (fun k => k = w2.heap.size) (HB2.out.kept ((Kp.refl No w2).alloc _) (fun x => x)) (list1 _ (wf_size _ hs64) w2 3) (fun h => by have := HB2.out.lt; omega)
          rw [show u - (u - m) = m by omega, take1 _ _ (by omega), if_neg hms] at ht
          have HT := Lib.hid ht
          have HSS : Hid (s.size ≤ maxLen) := Lib.hid (by unfold maxLen; omega)
          clear hs hs0 hs64 hsd hrel ht HST HMO HSK HCS hms
          go_wp2_with fail
          refine HT.out.mono ?_
          rintro e w3 ⟨rfl, hb3, hk3⟩
          have hb3 : Bk w3 kb r u (u - (m - (s.size : Int))) := hb3
          have HBK3 := Lib.hid hb3
          have hk2 : Kp (· = kb) w2 w3 := ((Kp.refl (· = kb) w2).alloc _).trans hk3 (fun i hi e => e)
          have HV3 := Lib.hid (HV2.out.others hk2 (by rintro k rfl; exact HKB.out) (by rintro k rfl; exact ⟨_, _, _, HB2.out.1, by decide⟩))
          have HO3 := Lib.hid (HO2.out.kept hk2 (fun _ h => h.elim) (fun k hk => own_ne_bk HO2.out HB2.out (by decide) k hk))
          have HK3 := Lib.hid (HK2.out.step hk2 (fun g hg => .inr hg))
          have hol2 : O.length ≤ 1000000 := by have := HOL.out; omega
          clear hb3 hk3 hk2 HT HV2 HO2 HK2 HB2
          go_wp2_with (at_builtin; refine wpList_append_lit Rp.str_by rfl _ (.tmp 36) (.tmp 38) 22 rfl w.heap.size 9 16 el_strS (.slice Av O.length cv) O rfl No ?d0 w3.heap.size [s] rfl _ _ _ (heap_alloc_new _ _) ?d1 ?d2 ?d3 ?d4 ?d5 ?d6 ?_)
          case d0 => exact HO3.out.alloc _
          case d2 => intro a ha; simp only [List.mem_cons, List.not_mem_nil, or_false] at ha; subst ha; exact HSS.out
          case d3 => simp [maxLen]; omega
          case d4 => simp; omega
          case d5 => have := HK3.out.size; simp; omega
          case d6 => intro h; have := (HO3.out.lt _ h).2; omega
          intro A3 c3 w6 hown hk6
          have HO6 := Lib.hid hown
          have hk7 : Kp (fun k => (Value.slice Av O.length cv).ownBlock = some k) w3 w6 := ((Kp.refl _ w3).alloc _).trans hk6 (fun i hi hv => hv)
          have HV6 := Lib.hid (HV3.out.others hk7 (fun k hk => by have := (HO3.out.lt k hk).1; have := HW0.out; omega) (fun k hk => by obtain ⟨cs, hc⟩ := HO3.out.block hk; exact ⟨cs, _, _, hc, by decide⟩))
          have HB6 := Lib.hid (HBK3.out.kept hk7 (fun h => own_ne_bk HO3.out HBK3.out (by decide) kb h rfl))
          have HK6 := Lib.hid (HK3.out.step hk7 (fun g hg => .inl (HO3.out.lt g hg).1))
          clear hown hk6 hk7 HO3 HV3 HBK3 HK3
          go_wp2_with fail
          go_roundw
          case rel => exact ⟨k + 1, O ++ [s], R.2, m - (s.size : Int), by omega, by go_num, HO6.out, HV6.out, HB6.out, HK6, HR, by have := HOL.out; rw [List.length_append]; simp; omega⟩
          case measure => simp [intOf]; omega
      · have hrel := HSK.out (by rw [her]; exact hne)
        have HR := Lib.hid hrel
        rw [her]
        have he1 : (er != 0) = true := by simpa using hne
        have he2 : (er == 0) = false := by simpa using hne
        clear her HCS HSK HST HMO hrel
        go_wp2_with fail
        go_roundw
        case rel => exact ⟨k + 1, O, R.2, m, by omega, by go_num, HO2.out, HV2.out, HB2.out, HK2, HR, by have := HOL.out; omega⟩
        case measure => simp [intOf]; omega
    · obtain rfl : k = l.length := by omega
      go_wp2_with fail
      go_ret
      exact ⟨_, _, O, Z, m, HR.out.done, rfl, HO.out, HV.out, HB.out, HKP.out⟩
end Go.Proofs.YtflodiljgphkdaaGreat
