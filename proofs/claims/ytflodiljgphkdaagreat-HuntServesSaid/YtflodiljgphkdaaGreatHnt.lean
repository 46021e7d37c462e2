/-
  layer 19: the hunt; many; awake.
-/
import Derived.Test.YtflodiljgphkdaaGreatOwn
import Derived.Test.YtflodiljgphkdaaGreatReg
namespace Go.Proofs.YtflodiljgphkdaaGreat
open Go.RowKit Go.ChangeShapes Go.WideShapes Go.ChangeAt

/-! layer 19: the hunt -/
theorem elem_strH : Elem Tryz.prog 22 9 1 16 := Elem.of Tryz.underlying22 (z := .string ByteArray.empty) (by kernel_rfl) rfl (by decide)

/-- A hunt: whose, its turn. -/
def Hk (w : World) (b : Nat) (me : Int) (t : Nat) : Prop :=
  w.heap[b]? = some (.cells #[.int .i64 me, .int .i64 t] 110 (0, 0)) ∧ 0 ≤ me ∧ me ≤ 5
theorem Hk.lt {w b m t} (h : Hk w b m t) : b < w.heap.size := by
  rcases Nat.lt_or_ge b w.heap.size with hlt | hge
  · exact hlt
  · have := h.1; rw [Array.getElem?_eq_none hge] at this; cases this
theorem Hk.c0 {w b m t} (h : Hk w b m t) : w.cell? ⟨b, 0, none⟩ = some (.int .i64 m) := by simp [World.cell?, h.1]
theorem Hk.c1 {w b m t} (h : Hk w b m t) : w.cell? ⟨b, 1, none⟩ = some (.int .i64 t) := by simp [World.cell?, h.1]
theorem Hk.fr {w b m t} (h : Hk w b m t) (i : Nat) : w.frozen? ⟨b, i, none⟩ = false := by simp [World.frozen?, h.1]
theorem Hk.kept {w w' b m t} {S : Nat → Prop} (h : Hk w b m t) (hk : Kp S w w') (hs : ¬ S b) : Hk w' b m t := ⟨(hk.block b h.lt hs).trans h.1, h.2⟩
theorem Hk.set {w b m t} (h : Hk w b m t) (t' : Nat) : Hk (w.setCell ⟨b, 1, none⟩ (.int .i64 t')) b m t' := by
  refine ⟨?_, h.2⟩
  simp [World.setCell, Array.getElem?_modify, h.1]
theorem Hk.drew {w b m t} (h : Hk w b m t) : Hk w.drew b m t := h

theorem h_new (me : Int) (w : World) (h0 : 0 ≤ me) (h1 : me ≤ 5) :
    Calls Tryz.prog 23 #[.int .i64 me] w fun e w' => e = .returned (.tuple #[.pointer (some ⟨w.heap.size, 0, none⟩), .int .i64 0]) ∧ Hk w' w.heap.size me 0 ∧ Kp No w w' := by
  go_enter Tryz.func23, Tryz.ntmps23
  go_wp2
  go_ret2
  exact ⟨rfl, ⟨heap_alloc_new w _, h0, h1⟩, (Kp.refl _ _).alloc _⟩
theorem h_new_bad (me : Int) (w : World) (h : me < 0 ∨ 5 < me) :
    Calls Tryz.prog 23 #[.int .i64 me] w fun e w' => e = .returned (.tuple #[.pointer none, .int .i64 1]) ∧ w = w' := by
  go_enter Tryz.func23, Tryz.ntmps23
  go_wp2
  all_goals first | (exfalso; omega) | (go_ret2; exact ⟨rfl, rfl⟩)

theorem h_turn (b : Nat) (me : Int) (t : Nat) (w : World) (h : Hk w b me t) :
    Calls Tryz.prog 25 #[.pointer (some ⟨b, 0, none⟩)] w fun e w' => e = .returned (.int .i64 t) ∧ w = w' := by
  have c1 := h.c1
  go_enter Tryz.func25, Tryz.ntmps25
  go_wp2
  go_ret
  exact ⟨rfl, rfl⟩
/-- whom a hunt asks, for what -/
def hRow (t n : Nat) : Nat := t / 5 % ((n + 3) / 4) * 4
def hGot {α : Type} (t : Nat) (l : List α) : List α := (l.drop (hRow t l.length)).take 4
def hTo (me : Int) (t : Nat) : Int := (me + 1 + t % 5) % 6

theorem hRow_lt {t n : Nat} (hn : 0 < n) : hRow t n < n := by
  unfold hRow
  have h1 : 0 < (n + 3) / 4 := by omega
  have := Nat.mod_lt (t / 5) h1
  omega

theorem h_tick_none (b : Nat) (me : Int) (t : Nat) (A : Option Addr) (c : Nat) (w : World) (h : Hk w b me t) (ht : t ≤ 1000000) :
    Calls Tryz.prog 24 #[.pointer (some ⟨b, 0, none⟩), .slice A 0 c] w fun e w' => e = .returned (.tuple #[.int .i64 (-1), .slice none 0 0]) ∧ Hk w' b me (t + 1) ∧ Kp (· = b) w w' := by
  have H := Lib.hid h
  have c1 := h.c1
  have hf := h.fr 1
  clear h
  go_enter Tryz.func24, Tryz.ntmps24
  go_wp2
  refine Reg.wp_region_plan [⟨0, false, []⟩, ⟨1, false, []⟩, ⟨2, false, []⟩, ⟨3, false, []⟩, ⟨4, false, []⟩, ⟨5, false, []⟩, ⟨6, false, []⟩, ⟨7, false, []⟩, ⟨8, false, []⟩, ⟨9, false, []⟩, ⟨10, false, []⟩, ⟨11, false, []⟩] rfl (by kernel_rfl) ?_
  repeat (first | (refine Reg.look rfl rfl rfl (by go_simp; rfl) rfl ?_; go_simp) | (refine Reg.skip rfl rfl rfl ?_; go_simp))
  (refine Reg.done ?_; simp only [Exit.then])
  go_wp2
  go_ret2
  refine ⟨rfl, ?_, ((Kp.refl (· = b) w).setCell (p := ⟨b, 1, none⟩) (fun _ => rfl) _).drew⟩
  exact (H.out.set (t + 1)).drew

set_option maxHeartbeats 2000000 in
theorem h_tick (b : Nat) (me : Int) (t : Nat) (l : List ByteArray) (A : Option Addr) (c : Nat) (w : World) (S : Nat → Prop) (h : Hk w b me t) (ht : t ≤ 1000000) (hl : Rp.str.slice.R w S [.slice A l.length c] l) (hS : ¬ S b) (hn : 0 < l.length) (hn2 : l.length ≤ 1000000) :
    Calls Tryz.prog 24 #[.pointer (some ⟨b, 0, none⟩), .slice A l.length c] w fun e w' =>
      (∃ A' c', e = .returned (.tuple #[.int .i64 (hTo me t), .slice A' (hGot t l).length c']) ∧ Own Rp.str w' S w.heap.size 9 (.slice A' (hGot t l).length c') (hGot t l)) ∧ Hk w' b me (t + 1) ∧ Kp (· = b) w w' := by
  unfold hGot
  obtain ⟨A0, c0', he0, _, _, hx0⟩ := id hl
  simp only [List.cons.injEq, Value.slice.injEq, and_true, true_and] at he0
  obtain ⟨rfl, rfl⟩ := he0
  obtain ⟨ad, rfl, had, _⟩ := hx0 hn
  clear hx0
  have H := Lib.hid h
  have c0 := h.c0
  have c1 := h.c1
  have hf := h.fr 1
  have hme := h.2
  have hbl := h.lt
  clear h
  have hcap : l.length ≤ c := by obtain ⟨_, _, he, h1, h2, _⟩ := hl; simp only [List.cons.injEq, Value.slice.injEq, and_true, true_and] at he; omega
  go_enter Tryz.func24, Tryz.ntmps24
  have e1 : IntKind.i64.wrap ((t : Int) / 5) = (t : Int) / 5 := by rw [IntKind.wrap_i64]; omega
  have e2 : (t : Int).tmod 5 = (t : Int) % 5 := by rw [Int.tmod_eq_emod_of_nonneg (by omega)]
  have e3 : wrap64 ((t : Int) / 5 % (((l.length : Int) + 4 - 1) / 4) * 4) = ((hRow t l.length : Nat) : Int) := by
    have h1 : ((t : Int) / 5 % (((l.length : Int) + 4 - 1) / 4) * 4) = ((hRow t l.length : Nat) : Int) := by
      unfold hRow
      rw [show ((l.length : Int) + 4 - 1) / 4 = (((l.length + 3) / 4 : Nat) : Int) by omega]
      push_cast
      rfl
    rw [h1]
    have := hRow_lt (t := t) hn
    unfold wrap64; omega
  have hlt := hRow_lt (t := t) hn
  generalize hRow t l.length = f at *
  go_wp2
  refine Reg.wp_region_plan [⟨0, false, []⟩, ⟨1, false, []⟩, ⟨2, false, []⟩, ⟨3, false, []⟩, ⟨4, false, []⟩, ⟨5, false, []⟩, ⟨6, false, []⟩, ⟨7, false, []⟩, ⟨8, false, []⟩, ⟨9, false, []⟩, ⟨10, false, []⟩, ⟨11, false, []⟩] rfl (by kernel_rfl) ?_
  repeat (first | (refine Reg.look rfl rfl rfl (by go_simp; rfl) rfl ?_; go_simp) | (refine Reg.skip rfl rfl rfl ?_; go_simp))
  (refine Reg.done ?_; simp only [Exit.then])
  go_wp2
  rw [e3]
  clear e1 e2 e3
  have e4 : IntKind.i64.wrap (me + 1) = me + 1 := by rw [IntKind.wrap_i64]; omega
  have e5 : IntKind.i64.wrap (me + 1 + (t : Int) % 5) = me + 1 + (t : Int) % 5 := by rw [IntKind.wrap_i64]; omega
  have e6 : (me + 1 + (t : Int) % 5).tmod 6 = hTo me t := by rw [Int.tmod_eq_emod_of_nonneg (by omega)]; rfl
  have e7 : IntKind.i64.wrap ((f : Int) + 4) = (f : Int) + 4 := by rw [IntKind.wrap_i64]; omega
  obtain ⟨to, hto⟩ : ∃ to, hTo me t = to := ⟨_, rfl⟩
  rw [hto] at e6
  have HTO := Lib.hid hto
  clear hto
  have hf0 : (0 : Int) ≤ (f : Int) := by omega
  have hfc : (f : Int) ≤ (c : Int) := by omega
  have hfne : ¬ c = f := by omega
  have HL := Lib.hid hl
  clear hl
  by_cases hmin : f + 4 < l.length
  · have hd : (f : Int) + 4 < (l.length : Int) := by omega
    have hf1 : f ≤ ((f : Int) + 4).toNat := by omega
    have hf2 : (f : Int) + 4 ≤ (c : Int) := by omega
    have hf3 : (0 : Int) ≤ (f : Int) + 4 := by omega
    have hf4 : ((f : Int) + 4).toNat - f = 4 := by omega
    have hm4 := Lib.hid (show ((l.drop f).take 4).length = 4 by rw [List.length_take, List.length_drop]; omega)
    refine Reg.wp_region_plan [⟨0, false, []⟩, ⟨1, false, []⟩, ⟨2, false, []⟩, ⟨3, false, []⟩, ⟨4, false, []⟩, ⟨5, false, []⟩, ⟨6, false, []⟩, ⟨7, false, []⟩, ⟨9, false, []⟩, ⟨10, false, []⟩, ⟨11, false, []⟩, ⟨12, false, []⟩, ⟨13, false, []⟩, ⟨14, false, []⟩, ⟨15, false, []⟩, ⟨8, true, [1, 2, 3, 4, 6, 7, 13, 14, 15]⟩, ⟨16, true, [1, 2, 3, 4, 6, 7]⟩, ⟨17, false, []⟩, ⟨18, false, []⟩] rfl (by kernel_rfl) ?_
    repeat (first | (refine Reg.look rfl rfl rfl (by go_simp; rfl) rfl ?_; go_simp) | (refine Reg.skip rfl rfl rfl ?_; go_simp))
    refine Reg.act rfl ?_
    go_wp2
    (refine ⟨?anew, ?_⟩; case anew => ((repeat (refine Reg.anew_cons rfl rfl (fun _ => by go_simp) ?_)); exact Reg.anew_nil))
    refine Reg.act rfl ?_
    have hk0 : Kp (· = b) w (w.setCell ⟨b, 1, none⟩ (.int .i64 ((t : Int) + 1))) := (Kp.refl (· = b) w).setCell (p := ⟨b, 1, none⟩) (fun _ => rfl) _
    have hs0 := (Rp.slice _).kept HL.out hk0 (fun i hi _ e => hS (e ▸ hi))
    have hs2 : Rp.str.slice.R (w.setCell ⟨b, 1, none⟩ (.int .i64 ((t : Int) + 1))) S [.slice (some (ad.add f)) ((l.drop f).take 4).length (c - f)] ((l.drop f).take 4) := by
      have := Rp.take4 (k := 4) (Rp.cut hs0 (k := f) (by omega))
      simpa [Rp.str] using this
    obtain ⟨gl, hgl⟩ : ∃ gl, (l.drop f).take 4 = gl := ⟨_, rfl⟩
    rw [hgl] at hs2
    have hm4 : Hid (gl.length = 4) := by rw [← hgl]; exact hm4
    have HGL := Lib.hid hgl
    clear hgl
    refine wpList_copy_at (E := Rp.str) rfl (w.setCell ⟨b, 1, none⟩ (.int .i64 ((t : Int) + 1))) _ w.heap.size (.tmp 50) (.tmp 57) 22 rfl 9 16 elem_strH rfl ?hg ?hgw ?hk (some (ad.add f)) (c - f) S gl ?hx hs2 Rp.str_one ?hb ?_
    case hg =>
      have e : (w.setCell ⟨b, 1, none⟩ (.int .i64 ((t : Int) + 1))).heap.size = w.heap.size := by simp [World.setCell]
      rw [← e]
      exact heap_alloc_new _ _
    case hgw => simp [World.setCell]
    case hk => exact (((Kp.refl _ _).alloc _).drew).drew
    case hx => show Value.slice (some (ad.add f)) 4 (c - f) = _; rw [hm4.out]
    case hb => rw [hm4.out]; omega
    intro A' c' w2 hown hk2
    have HO := Lib.hid hown
    have HK := Lib.hid (hk0.trans hk2 (fun _ _ x => x.elim))
    have HH := Lib.hid ((H.out.set (t + 1)).kept hk2 (fun x => x))
    clear hown hk2 hk0 hs0 hs2
    have c02 := HH.out.c0
    go_wp2
    (refine ⟨?anew, ?_⟩; case anew => ((repeat (refine Reg.anew_cons rfl rfl (fun _ => by go_simp) ?_)); exact Reg.anew_nil))
    repeat (first | (refine Reg.look rfl rfl rfl (by go_simp; rfl) rfl ?_; go_simp) | (refine Reg.skip rfl rfl rfl ?_; go_simp))
    (refine Reg.done ?_; simp only [Exit.then])
    go_wp2
    go_ret2
    refine ⟨?_, HH.out, HK.out⟩
    rw [HGL.out, HTO.out]
    exact ⟨A', c', rfl, HO.out⟩
  · have hd : ((f : Int) + 4 < (l.length : Int)) = False := by simp; omega
    have hf1 : (f : Int) ≤ (l.length : Int) := by omega
    have hf2 : (l.length : Int) ≤ (c : Int) := by omega
    have hf3 : f ≤ l.length := by omega
    have hm4 := Lib.hid (show ((l.drop f).take 4).length = l.length - f by rw [List.length_take, List.length_drop]; omega)
    refine Reg.wp_region_plan [⟨0, false, []⟩, ⟨1, false, []⟩, ⟨2, false, []⟩, ⟨3, false, []⟩, ⟨4, false, []⟩, ⟨5, false, []⟩, ⟨6, false, []⟩, ⟨7, false, []⟩, ⟨9, false, []⟩, ⟨10, false, []⟩, ⟨11, false, []⟩, ⟨12, false, []⟩, ⟨13, false, []⟩, ⟨14, false, []⟩, ⟨15, false, []⟩, ⟨8, true, [1, 2, 3, 4, 6, 7, 13, 14, 15]⟩, ⟨16, true, [1, 2, 3, 4, 6, 7]⟩, ⟨17, false, []⟩, ⟨18, false, []⟩] rfl (by kernel_rfl) ?_
    repeat (first | (refine Reg.look rfl rfl rfl (by go_simp; rfl) rfl ?_; go_simp) | (refine Reg.skip rfl rfl rfl ?_; go_simp))
    refine Reg.act rfl ?_
    go_wp2
    (refine ⟨?anew, ?_⟩; case anew => ((repeat (refine Reg.anew_cons rfl rfl (fun _ => by go_simp) ?_)); exact Reg.anew_nil))
    refine Reg.act rfl ?_
    have hk0 : Kp (· = b) w (w.setCell ⟨b, 1, none⟩ (.int .i64 ((t : Int) + 1))) := (Kp.refl (· = b) w).setCell (p := ⟨b, 1, none⟩) (fun _ => rfl) _
    have hs0 := (Rp.slice _).kept HL.out hk0 (fun i hi _ e => hS (e ▸ hi))
    have hs2 : Rp.str.slice.R (w.setCell ⟨b, 1, none⟩ (.int .i64 ((t : Int) + 1))) S [.slice (some (ad.add f)) ((l.drop f).take 4).length (c - f)] ((l.drop f).take 4) := by
      have := Rp.take4 (k := 4) (Rp.cut hs0 (k := f) (by omega))
      simpa [Rp.str] using this
    obtain ⟨gl, hgl⟩ : ∃ gl, (l.drop f).take 4 = gl := ⟨_, rfl⟩
    rw [hgl] at hs2
    have hm4 : Hid (gl.length = (l.length - f)) := by rw [← hgl]; exact hm4
    have HGL := Lib.hid hgl
    clear hgl
    refine wpList_copy_at (E := Rp.str) rfl (w.setCell ⟨b, 1, none⟩ (.int .i64 ((t : Int) + 1))) _ w.heap.size (.tmp 50) (.tmp 57) 22 rfl 9 16 elem_strH rfl ?hg ?hgw ?hk (some (ad.add f)) (c - f) S gl ?hx hs2 Rp.str_one ?hb ?_
    case hg =>
      have e : (w.setCell ⟨b, 1, none⟩ (.int .i64 ((t : Int) + 1))).heap.size = w.heap.size := by simp [World.setCell]
      rw [← e]
      exact heap_alloc_new _ _
    case hgw => simp [World.setCell]
    case hk => exact (((Kp.refl _ _).alloc _).drew).drew
    case hx => show Value.slice (some (ad.add f)) (l.length - f) (c - f) = _; rw [hm4.out]
    case hb => rw [hm4.out]; omega
    intro A' c' w2 hown hk2
    have HO := Lib.hid hown
    have HK := Lib.hid (hk0.trans hk2 (fun _ _ x => x.elim))
    have HH := Lib.hid ((H.out.set (t + 1)).kept hk2 (fun x => x))
    clear hown hk2 hk0 hs0 hs2
    have c02 := HH.out.c0
    go_wp2
    (refine ⟨?anew, ?_⟩; case anew => ((repeat (refine Reg.anew_cons rfl rfl (fun _ => by go_simp) ?_)); exact Reg.anew_nil))
    repeat (first | (refine Reg.look rfl rfl rfl (by go_simp; rfl) rfl ?_; go_simp) | (refine Reg.skip rfl rfl rfl ?_; go_simp))
    (refine Reg.done ?_; simp only [Exit.then])
    go_wp2
    go_ret2
    refine ⟨?_, HH.out, HK.out⟩
    rw [HGL.out, HTO.out]
    exact ⟨A', c', rfl, HO.out⟩
/-- are texts together more than is played? -/
def manyB (l : List ByteArray) : Bool := decide (4096 < (l.map fun s => 1 + min s.size 1048576).sum)
theorem sum_take_le (f : ByteArray → Nat) (l : List ByteArray) (k : Nat) : ((l.take k).map f).sum ≤ (l.map f).sum := by
  have : l = l.take k ++ l.drop k := (List.take_append_drop k l).symm
  rw [this, List.map_append, List.sum_append, ← this]
  omega
theorem manyB_length {l : List ByteArray} (h : manyB l = false) : l.length ≤ 4096 := by
  have : l.length ≤ (l.map fun s => 1 + min s.size 1048576).sum := by
    clear h
    induction l with
    | nil => simp
    | cons x l ih => simp only [List.length_cons, List.map_cons, List.sum_cons]; omega
  unfold manyB at h
  simp at h
  omega
/-- amid the counting -/
def ManyRel (l : List ByteArray) (k : Nat) (n : Nat) : Prop := n = ((l.take k).map fun s => 1 + min s.size 1048576).sum ∧ n ≤ 4096
theorem ManyRel.step {l k n x} (h : ManyRel l k n) (hx : l[k]? = some x) : (n + (1 + min x.size 1048576) ≤ 4096 → ManyRel l (k + 1) (n + (1 + min x.size 1048576))) ∧ (4096 < n + (1 + min x.size 1048576) → manyB l = true) := by
  obtain ⟨hlt, rfl⟩ := List.getElem?_eq_some_iff.1 hx
  have e : ((l.take (k + 1)).map fun s => 1 + min s.size 1048576).sum = n + (1 + min l[k].size 1048576) := by
    rw [List.take_succ_eq_append_getElem hlt, List.map_append, List.sum_append, ← h.1]
    simp
  refine ⟨fun hle => ⟨e.symm, hle⟩, fun hgt => ?_⟩
  unfold manyB
  have := sum_take_le (fun s => 1 + min s.size 1048576) l (k + 1)
  simp only [decide_eq_true_eq]
  omega
theorem ManyRel.stop {l n} (h : ManyRel l l.length n) : manyB l = false := by
  obtain ⟨h1, h2⟩ := h
  rw [List.take_length] at h1
  unfold manyB
  simp only [decide_eq_false_iff_not]
  omega

set_option maxRecDepth 100000 in
theorem h_many (l : List ByteArray) (A : Option Addr) (c : Nat) (w : World) (S : Nat → Prop) (hl : Rp.str.slice.R w S [.slice A l.length c] l) :
    Calls Tryz.prog 5 #[.slice A l.length c] w fun e w' => e = .returned (.bool (manyB l)) ∧ w = w' := by
  have hlen : l.length ≤ maxLen := by obtain ⟨_, _, _, h1, h2, _⟩ := hl; omega
  unfold maxLen at hlen
  have h0 : ManyRel l 0 0 := ⟨by simp, by omega⟩
  go_enter Tryz.func5, Tryz.ntmps5
  go_wp2
  go_loop [3, 8] (fun n i => ∃ (k m : Nat), k ≤ l.length ∧ i = .int .i64 k ∧ n = .int .i64 m ∧ ManyRel l k m) (fun _ i => l.length - (intOf i).toNat)
  case atStart => exact ⟨0, 0, Nat.zero_le _, rfl, rfl, h0⟩
  case round =>
    obtain ⟨k, m, hk, rfl, rfl, hr⟩ := hrel
    have hm := hr.2
    by_cases hlt : k < l.length
    · obtain ⟨y, hy⟩ : ∃ y, l[k]? = some y := ⟨_, List.getElem?_eq_getElem hlt⟩
      obtain ⟨ad, rfl, had, hv, hys⟩ := Rp.at_str hl hy
      unfold maxLen at hys
      have step := Lib.hid (hr.step hy)
      clear hr hl hy h0 had
      by_cases hbig : 1048576 < y.size
      · have hq := Lib.hid (step.out.2 (by omega))
        have hgt : (4096 : Int) < (m : Int) + (1 + if (1048576 : Int) < (y.size : Int) then 1048576 else (y.size : Int)) := by split <;> omega
        clear hbig
        go_wp2
        all_goals go_ret
        all_goals exact ⟨congrArg (fun b => Ending.returned (Value.bool b)) hq.out.symm, rfl⟩
      · go_wp2
        · have hgt : (4096 : Int) < m + (1 + y.size) := by assumption
          have hq := step.out.2 (by omega)
          clear step
          go_ret
          exact ⟨congrArg (fun b => Ending.returned (Value.bool b)) hq.symm, rfl⟩
        · have hle : (m : Int) + (1 + y.size) ≤ 4096 := by assumption
          go_round
          case rel => exact ⟨k + 1, m + (1 + min y.size 1048576), by omega, by go_num, by rw [Nat.min_eq_left (by omega)]; go_num, step.out.1 (by omega)⟩
          case measure => simp [intOf]; omega
    · obtain rfl : k = l.length := by omega
      have fin := Lib.hid hr.stop
      clear hr hl
      go_wp2
      go_ret
      exact ⟨congrArg (fun b => Ending.returned (Value.bool b)) fin.out.symm, rfl⟩

def letters : List ByteArray := [⟨#[97]⟩, ⟨#[98]⟩, ⟨#[99]⟩, ⟨#[100]⟩, ⟨#[101]⟩]

set_option maxHeartbeats 2000000 in
theorem awake19 (w : World) : Calls Tryz.prog 4 #[] w fun e w' => e = .returned (.bool true) ∧ Kp No w w' := by
  go_enter Tryz.func4, Tryz.ntmps4
  go_wp2_with fail
  refine (h_new 5 _ (by omega) (by omega)).mono ?_
  rintro e w1 ⟨rfl, hb1, hk1⟩
  have hlt1 := hb1.lt
  have HB1 := Lib.hid hb1
  have HK1 := Lib.hid hk1
  clear hb1 hk1
  go_wp2_with fail
  refine (h_tick w.heap.size 5 0 letters (some ⟨w1.heap.size, 0, none⟩) 5 _ (fun k => w1.heap.size ≤ k) (HB1.out.kept (S := No) ((Kp.refl _ _).alloc _) (fun h => h)) (by omega)
    (Rp.of_block1 (E := Rp.str) rfl Value.string (heap_alloc_new w1 _) (Nat.le_refl _) rfl (by decide) (by simp [maxLen]) (by intro a ha; refine ⟨rfl, ?_⟩; simp only [letters, List.mem_cons, List.not_mem_nil, or_false] at ha; rcases ha with rfl | rfl | rfl | rfl | rfl <;> simp [maxLen, ByteArray.size]))
    (by simp; omega) (by decide) (by decide)).mono ?_
  rintro e w2 ⟨⟨A2, c2, rfl, ho2⟩, hb2, hk2⟩
  have HB2 := Lib.hid hb2
  have HK2 : Hid (Kp No w w2) := Lib.hid ((HK1.out.alloc _).trans hk2 (fun i hi h => absurd h (by omega)))
  clear hb2 hk2 HB1 HK1 ho2
  simp only [show hTo 5 0 = 0 from rfl, show (hGot 0 letters).length = 4 from rfl]
  go_wp2_with fail
  go_loopw [23] (fun i wr => ∃ k : Nat, k ≤ 4 ∧ i = .int .i64 k ∧ Hk wr w.heap.size 5 (1 + k) ∧ Kp No w wr) (fun i _ => 4 - (intOf i).toNat)
  case atStart => exact ⟨0, by omega, rfl, HB2.out, HK2.out⟩
  case round =>
    obtain ⟨k, hk, rfl, hb3, hk3⟩ := hrel
    have HB3 := Lib.hid hb3
    have HK3 := Lib.hid hk3
    have hlt3 := hb3.lt
    clear hb3 hk3 HB2 HK2
    by_cases hlt : k < 4
    · go_wp2_with fail
      refine (h_tick w.heap.size 5 (1 + k) [⟨#[97]⟩] (some ⟨wr.heap.size, 0, none⟩) 1 _ (fun k => wr.heap.size ≤ k) (HB3.out.kept (S := No) ((Kp.refl _ _).alloc _) (fun h => h)) (by omega)
        (Rp.of_block1 (E := Rp.str) rfl Value.string (heap_alloc_new wr _) (Nat.le_refl _) rfl (by decide) (by simp [maxLen]) (by intro a ha; refine ⟨rfl, ?_⟩; simp only [List.mem_cons, List.not_mem_nil, or_false] at ha; subst ha; simp [maxLen, ByteArray.size]))
        (by simp; omega) (by decide) (by decide)).mono ?_
      rintro e w4 ⟨⟨A4, c4, rfl, _⟩, hb4, hk4⟩
      have HB4 := Lib.hid hb4
      have HK4 : Hid (Kp No w w4) := Lib.hid ((HK3.out.alloc _).trans hk4 (fun i hi h => absurd h (by omega)))
      clear hb4 hk4
      go_wp2_with fail
      go_roundw
      case rel => exact ⟨k + 1, by omega, by go_num, HB4.out, HK4.out⟩
      case measure => simp [intOf]; omega
    · obtain rfl : k = 4 := by omega
      go_wp2_with fail
      refine (h_tick w.heap.size 5 5 letters (some ⟨wr.heap.size, 0, none⟩) 5 _ (fun k => wr.heap.size ≤ k) (HB3.out.kept (S := No) ((Kp.refl _ _).alloc _) (fun h => h)) (by omega)
        (Rp.of_block1 (E := Rp.str) rfl Value.string (heap_alloc_new wr _) (Nat.le_refl _) rfl (by decide) (by simp [maxLen]) (by intro a ha; refine ⟨rfl, ?_⟩; simp only [letters, List.mem_cons, List.not_mem_nil, or_false] at ha; rcases ha with rfl | rfl | rfl | rfl | rfl <;> simp [maxLen, ByteArray.size]))
        (by simp; omega) (by decide) (by decide)).mono ?_
      rintro e w4 ⟨⟨A4, c4, rfl, ho4⟩, hb4, hk4⟩
      have HB4 := Lib.hid hb4
      have HK4 : Hid (Kp No w w4) := Lib.hid ((HK3.out.alloc _).trans hk4 (fun i hi h => absurd h (by omega)))
      obtain ⟨ad, rfl, _, hv, _⟩ := Rp.at_str ho4.readFrom (i := 0) (a := ⟨#[101]⟩) rfl
      have hv : w4.cell? ad = some (.string ⟨#[101]⟩) := hv
      clear hb4 hk4 ho4
      simp only [show hTo 5 5 = 0 from rfl, show (hGot 5 letters).length = 1 from rfl]
      go_wp2_with fail
      refine (h_turn _ _ _ _ HB4.out).mono ?_
      rintro e w5 ⟨rfl, rfl⟩
      go_wp2
      go_ret
      exact ⟨rfl, HK4.out⟩
end Go.Proofs.YtflodiljgphkdaaGreat
