/-
  The document's drive: Append.
-/
import Derived.Test.YtflodiljgphkdaaRef1
namespace Go.Proofs.Ytflodiljgphkdaa
open Go.RowKit Go.ChangeShapes Go.WideShapes Go.ChangeAt

namespace RIn
variable {w w' : World} {r : Nat} {v : Value} {x : DV}
/-- a file's field turned -/
theorem set {g n c : Nat} (h : RIn w r (.slice (some ⟨g, 0, none⟩) n c) x) {i j : Nat} {p q : ByteArray × FV} (hi : x.files[i]? = some p) {u : Value} (hj : j < 4) (hq : enc4 q = (enc4 p).set j u) (ho : OkD { x with files := x.files.set i q }) :
    RIn (w.setCell ⟨g, i * 4 + j, none⟩ u) r (.slice (some ⟨g, 0, none⟩) n c) { x with files := x.files.set i q } ∧ g ≠ r := by
  have hne : g ≠ r := by
    obtain ⟨g', he, hb, _⟩ := h.row.cell hi
    injection he with he; injection he with he
    subst he
    rintro rfl
    exact h.ne hb
  refine ⟨⟨?_, h.row.set hi hj hq, ho, h.sh⟩, hne⟩
  exact Blk.kept (S := (· = g)) h.blk ((Kp.refl (· = g) w).setCell (p := ⟨g, i * 4 + j, none⟩) (fun _ => rfl) _) (fun e => hne e.symm)
/-- its files in a new row -/
theorem anew {w9 : World} {v9 : Value} {l : List (ByteArray × FV)} (h : RIn w r v x) (hk : Kp No w w9) (hrs : RS w9 v9 l) (hb : ∀ k, rblk v9 = some k → w.heap.size ≤ k) (ho : OkD { x with files := l }) (hsh : Shp v9) :
    RIn (w9.setCell ⟨r, 0, none⟩ v9) r v9 { x with files := l } ∧ Kp (· = r) w (w9.setCell ⟨r, 0, none⟩ v9) := by
  have h1 := h.keptNo hk
  refine ⟨⟨Blk.set h1.blk 0 v9, ?_, ho, hsh⟩, (hk.any (S := (· = r))).setCell (p := ⟨r, 0, none⟩) (fun _ => rfl) _⟩
  refine RS.kept (S := (· = r)) hrs ((Kp.refl (· = r) w9).setCell (p := ⟨r, 0, none⟩) (fun _ => rfl) _) (fun k hk e => ?_)
  have := hb k hk
  have := Blk.lt h.blk
  omega
end RIn

namespace RS
variable {w w' : World} {v : Value} {l : List (ByteArray × FV)}
theorem cutR {g n c : Nat} (h : RS w (.slice (some ⟨g, 0, none⟩) n c) l) {i : Nat} (hi : i ≤ l.length) :
    Rp.rf.slice.R w (fun k => k < w.heap.size) [.slice (if c = i then some ⟨g, 0, none⟩ else some ⟨g, i * 4, none⟩) (l.drop i).length (c - i)] (l.drop i) := by
  obtain ⟨A', c', he, hc1, hc2, _⟩ := id h
  injection he with e1 e2 e3
  subst e2 e3
  by_cases hci : c = i
  · have h0 : l.drop i = [] := List.drop_eq_nil_of_le (by omega)
    rw [h0]
    exact ⟨_, _, rfl, Nat.zero_le _, by omega, fun h => absurd h (by simp)⟩
  · rw [if_neg hci]
    have h2 := Rp.cut h.read hi
    rw [Addr.add_lit, Nat.zero_add] at h2
    exact Rp.rf.slice.more h2 (fun k hk => h.lt hk)
theorem headR {A : Option Addr} {n c : Nat} (h : RS w (.slice A n c) l) {i : Nat} (hi : i ≤ l.length) :
    Rp.rf.slice.R w (fun k => k < w.heap.size) [.slice A (l.take i).length (l.take i).length] (l.take i) := by
  have h2 := h.take hi
  have hl : (l.take i).length = i := by rw [List.length_take]; omega
  have h3 := Rp.rf.slice.more h2.read (fun k hk => h2.lt hk)
  rw [hl]; exact h3
end RS
theorem lit1 (w : World) (p : ByteArray × FV) (S : Nat → Prop) (hS : S w.heap.size) : Rp.rf.slice.R (w.alloc (.cells (enc4 p).toArray 106)) S [.slice (some ⟨w.heap.size, 0, none⟩) 1 1] [p] := by
  refine ⟨_, _, rfl, Nat.le_refl _, by unfold maxLen; omega, fun _ => ⟨_, rfl, hS, fun i a hi => ?_⟩⟩
  obtain rfl : i = 0 := by have := (List.getElem?_eq_some_iff.1 hi).1; simp at this; exact this
  injection hi with hi
  subst hi
  refine ⟨enc4 p, fun j u hu => ?_, rfl⟩
  rw [Addr.add_lit, Addr.add_lit]
  have hb : Blk (w.alloc (.cells (enc4 p).toArray 106)) w.heap.size 106 (enc4 p) := Blk.new w (enc4 p) _
  have h2 := hb.cell hu
  simpa using h2

theorem enc4_wait {n : ByteArray} {f : FV} (hf : OkF f) (s : ByteArray) : enc4 (n, { f with bytes := f.bytes ++ s.data.toList }) = (enc4 (n, f)).set 2 (.string (bs (f.bytes.drop f.sure) ++ s)) := by
  simp only [enc4, List.set_cons_succ, List.set_cons_zero]
  rw [List.take_append_of_le_length hf.1, List.drop_append_of_le_length hf.1, ← bs_append, bs_of]

theorem ins_set {n : ByteArray} (a b : FV) {l : List (ByteArray × FV)} (hr : Rising l) (hm : mget n l = none) : (ins n a l).set (rank n l) (n, b) = ins n b l := by
  rw [ins_new a hr hm, ins_new b hr hm]
  have hl : (l.take (rank n l)).length = rank n l := by rw [List.length_take]; have := rank_le n l; omega
  rw [List.set_append_right _ _ (by omega), hl, Nat.sub_self]; rfl
theorem ins_get {n : ByteArray} (a : FV) {l : List (ByteArray × FV)} (hr : Rising l) (hm : mget n l = none) : (ins n a l)[rank n l]? = some (n, a) := by
  rw [ins_new a hr hm]
  have hl : (l.take (rank n l)).length = rank n l := by rw [List.length_take]; have := rank_le n l; omega
  rw [List.getElem?_append_right (by omega), hl, Nat.sub_self]; rfl

set_option maxRecDepth 100000 in
set_option maxHeartbeats 1000000 in
theorem r_append (r : Nat) (x : DV) (F : Nat → Prop) (n s : ByteArray) (w : World) (h : RAt w r x F) (hn : n.size ≤ maxLen) (hx : x.files.length ≤ 1000000) :
    Calls Try.prog 65 #[.pointer (some ⟨r, 0, none⟩), .string n, .string s] w fun e w' => e = .returned (.int .i64 (appendD n s x).1) ∧ ∃ F', RAt w' r (appendD n s x).2 F' ∧ Upd F w w' F' := by
  have hAt := h
  obtain ⟨v, h, hF⟩ := h
  have H := Lib.hid h
  have HA0 := Lib.hid hAt
  have HF := Lib.hid hF
  have hnamed := r_named n hn w
  have hok := h.ok
  clear h hF hAt
  have hn80 : fineN n = true → n.size ≤ 80 := by
    intro h
    unfold fineN at h
    simp only [Bool.and_eq_true, decide_eq_true_eq] at h
    exact h.2.1
  cases hfn : fineN n with
  | false =>
    have e : appendD n s x = (1, x) := by unfold appendD readyD; rw [hfn]; rfl
    rw [e]
    rw [hfn] at hnamed
    clear e hfn hok
    go_enter Try.func65, Try.ntmps65
    go_wp2_with fail
    refine hnamed.mono ?_
    rintro e w1 ⟨rfl, hk⟩
    have HK := Lib.hid hk
    clear hk hnamed
    go_wp2_with fail
    go_ret
    exact ⟨rfl, F, HA0.out.keptNo HK.out, HK.out.any, fun k hk => .inl hk⟩
  | true =>
    rw [hfn] at hnamed
    have HN80 := Lib.hid (hn80 hfn)
    clear hn80
    cases hoff : x.off with
    | true =>
      have e : appendD n s x = (50, x) := by unfold appendD readyD; rw [hfn, hoff]; rfl
      rw [e]
      clear e hfn hok
      go_enter Try.func65, Try.ntmps65
      go_wp2_with fail
      refine hnamed.mono ?_
      rintro e w1 ⟨rfl, hk⟩
      have HK := Lib.hid hk
      have c2 : w1.cell? ⟨r, 2, none⟩ = some (.bool x.off) := Blk.cell (H.out.keptNo hk).blk rfl
      rw [hoff] at c2
      clear hk hnamed hoff
      go_wp2_with fail
      go_ret
      exact ⟨rfl, F, HA0.out.keptNo HK.out, HK.out.any, fun k hk => .inl hk⟩
    | false =>
      have e : appendD n s x = (let f := (fileD n x).getD ⟨[], 0, false⟩; if 1048576 < f.bytes.length + s.size then (52, x) else stepD x fun y => { y with files := ins n { f with bytes := f.bytes ++ s.data.toList } y.files }) := by
        unfold appendD readyD; rw [hfn, hoff]; rfl
      rw [e]
      have HOK := Lib.hid hok
      clear e hfn hok
      obtain ⟨Z, hZ⟩ : ∃ Z, (let f := (fileD n x).getD ⟨[], 0, false⟩; if 1048576 < f.bytes.length + s.size then (52, x) else stepD x fun y => { y with files := ins n { f with bytes := f.bytes ++ s.data.toList } y.files }) = Z := ⟨_, rfl⟩
      rw [hZ]
      have HZ := Lib.hid hZ
      clear hZ
      go_enter Try.func65, Try.ntmps65
      go_wp2_with fail
      refine hnamed.mono ?_
      rintro e w1 ⟨rfl, hk⟩
      have HK := Lib.hid hk
      have c2 : w1.cell? ⟨r, 2, none⟩ = some (.bool x.off) := Blk.cell (H.out.keptNo hk).blk rfl
      rw [hoff] at c2
      have hat := r_at r v x n w1 (H.out.keptNo hk)
      have H1 := Lib.hid (H.out.keptNo hk)
      clear hk hnamed hoff
      cases hfile : mget n x.files with
      | none =>
        rw [hfile] at hat
        go_wp2_with fail
        refine hat.mono ?_
        rintro e w2 ⟨rfl, hk⟩
        have HK2 := Lib.hid (HK.out.trans' hk)
        have H2 := Lib.hid (H1.out.keptNo hk)
        clear hat hk c2
        by_cases hbig : (1048576 : Int) < s.size
        · have hz : Z = (52, x) := by
            rw [← HZ.out]; unfold fileD; rw [hfile]
            exact if_pos (by show 1048576 < 0 + s.size; omega)
          have HZ2 := Lib.hid hz
          clear hz hfile
          go_wp2_with fail
          go_quiet (fail)
          go_wp2_with fail
          go_ret
          rw [HZ2.out]
          exact ⟨rfl, F, HA0.out.keptNo (HK2.out.drewN _), (HK2.out.drewN _).any, fun k hk => .inl hk⟩
        · have hz : Z = stepD x fun y => { y with files := ins n ⟨s.data.toList, 0, false⟩ y.files } := by
            rw [← HZ.out]; unfold fileD; rw [hfile]
            exact if_neg (by show ¬ 1048576 < 0 + s.size; omega)
          have HZ2 := Lib.hid hz
          clear hz
          go_wp2_with fail
          go_quiet (fail)
          go_wp2_with fail
          by_cases hf : x.fuse = 0
          · have e : (stepD x fun y => { y with files := ins n ⟨s.data.toList, 0, false⟩ y.files }) = (50, { x with off := true }) := by unfold stepD; rw [if_pos hf]
            have HZ3 := Lib.hid (HZ2.out.trans e)
            clear e
            refine (r_step_out r v x _ (H2.out.keptNo ((Kp.refl _ _).drewN _)).blk hf).mono ?_
            rintro e w3 ⟨rfl, hb, hk⟩
            have H3 := Lib.hid ((H2.out.keptNo ((Kp.refl _ _).drewN _)).turned hk hb rfl (H2.out.ok.off true))
            have HK3 := Lib.hid ((HK2.out.drewN _).any.trans hk (fun k _ e => (HF.out k).2 (.inl e)))
            clear hb hk hf hfile hbig
            go_wp2_with fail
            go_ret
            rw [HZ3.out]
            exact ⟨rfl, F, ⟨v, H3.out, HF.out⟩, HK3.out, fun k hk => .inl hk⟩
          · have e : (stepD x fun y => { y with files := ins n ⟨s.data.toList, 0, false⟩ y.files }) = (0, { stepped x with files := ins n ⟨s.data.toList, 0, false⟩ x.files }) := by unfold stepD; rw [if_neg hf]; rfl
            have HZ3 := Lib.hid (HZ2.out.trans e)
            clear e
            refine (r_step r v x _ (H2.out.keptNo ((Kp.refl _ _).drewN _)).blk H2.out.ok hf).mono ?_
            rintro e w3 ⟨rfl, hb, hk⟩
            have H3 := Lib.hid ((H2.out.keptNo ((Kp.refl _ _).drewN _)).turned (y := stepped x) hk hb rfl H2.out.ok.stepped)
            have HK3 := Lib.hid ((HK2.out.drewN _).any.trans hk (fun k _ e => (HF.out k).2 (.inl e)))
            have HFI := Lib.hid hfile
            have hrlt : r < w3.heap.size := Blk.lt H3.out.blk
            have hrl := rank_le n x.files
            obtain ⟨i, hi⟩ : ∃ i, rank n x.files = i := ⟨_, rfl⟩
            rw [hi] at hrl ⊢
            clear hb hk hf hfile hbig
            rcases H3.out.sh with rfl | ⟨g, m, c, rfl⟩
            · have c0 : w3.cell? ⟨r, 0, none⟩ = some (.slice none 0 0) := Blk.cell H3.out.blk rfl
              have hl0 : x.files.length = 0 := by
                obtain ⟨A', c', he, _⟩ := id H3.out.row
                injection he with _ he _
                exact he.symm
              have hx0 : x.files = [] := List.eq_nil_of_length_eq_zero hl0
              rw [hl0] at hrl
              obtain ⟨D, hD⟩ : ∃ D, x.files.drop i = D := ⟨_, rfl⟩
              obtain ⟨T, hT⟩ : ∃ T, x.files.take i = T := ⟨_, rfl⟩
              have hDn : D = [] := by rw [← hD, hx0]; simp
              have hTn : T = [] := by rw [← hT, hx0]; simp
              have HCUT : Hid (Rp.rf.slice.R w3 (fun k => k < w3.heap.size) [.slice none D.length 0] D) := Lib.hid (by rw [hDn]; exact ⟨_, _, rfl, Nat.le_refl _, Nat.zero_le _, fun h => absurd h (by simp)⟩)
              have HHEAD : Hid (Rp.rf.slice.R w3 (fun k => k < w3.heap.size) [.slice none T.length T.length] T) := Lib.hid (by rw [hTn]; exact ⟨_, _, rfl, Nat.le_refl _, Nat.zero_le _, fun h => absurd h (by simp)⟩)
              have HDL : Hid (D.length = 0) := Lib.hid (by rw [hDn]; rfl)
              have HTL : Hid (T.length = 0) := Lib.hid (by rw [hTn]; rfl)
              clear hDn hTn hx0 hl0
              have F3 := Blk.fr H3.out.blk 0
              · skip
                go_wp2_with (at_builtin; first
                  | (refine wpList_copy_lit (E := Rp.rf) rfl w3 (.tmp 59) (.tmp 65) 100 rfl 106 56 el_rf rfl _ _ (fun k => k < w3.heap.size) D ?hx HCUT.out Rp.rf_one ?hby ?_
                     case hx => (rw [HDL.out]; rfl)
                     case hby => have := HDL.out; omega
                     intro A7 c7 w7 hown7 hk7
                     have H7 := Lib.hid (H3.out.keptNo hk7)
                     have HO7 := Lib.hid hown7
                     have HK7 := Lib.hid hk7
                     have c07 : w7.cell? ⟨r, 0, none⟩ = some (.slice (none) 0 0) := Blk.cell H7.out.blk rfl
                     have hrlt7 : r < w7.heap.size := Blk.lt H7.out.blk
                     clear c0 hrlt hown7 hk7)
                  | (refine wpList_append_full (E := Rp.rf) rfl (w7.alloc (.cells (enc4 (n, ⟨[], 0, false⟩)).toArray 106)) (.tmp 74) (.tmp 77) 100 rfl 106 56 el_rf (fun k => k < w7.heap.size + 1) (none) T ?hx1 ?hl1 (some ⟨w7.heap.size, 0, none⟩) 1 [(n, ⟨[], 0, false⟩)] rfl ?hm1 Nat.one_pos Rp.rf_one ?hcap1 ?hby1 ?_
                     case hx1 => (rw [HTL.out]; rfl)
                     case hm1 => exact lit1 w7 _ _ (by omega)
                     case hl1 => exact Rp.rf.slice.keptNo (Rp.rf.slice.more HHEAD.out (fun k hk => Nat.lt_of_lt_of_le hk (Nat.le_succ_of_le HK7.out.size))) (HK7.out.alloc _)
                     case hcap1 => have := HTL.out; simp [maxLen]; omega
                     case hby1 => have := HTL.out; simp; omega
                     intro A8 c8 w8 hown8 hk8
                     have HO8 : Hid (Own Rp.rf w8 (fun k => k < w7.heap.size) (w7.heap.size + 1) 106 (.slice A8 (T.length + 1) c8) (T ++ [(n, ⟨[], 0, false⟩)])) := Lib.hid (by have h := hown8.rf_any (fun k => k < w7.heap.size); simpa using h)
                     have HS8 : w7.heap.size + 1 ≤ w8.heap.size := by have := hk8.size; simpa using this
                     have HK8 : Hid (Kp No w7 w8) := Lib.hid (((Kp.refl No w7).alloc _).trans' hk8)
                     clear hown8 hk8)
                  | (refine wpList_append_rp (E := Rp.rf) rfl w8 (.tmp 78) (.tmp 79) 100 rfl (w7.heap.size + 1) 106 56 el_rf (fun k => k < w7.heap.size) (.slice A8 (T.length + 1) c8) (T ++ [(n, ⟨[], 0, false⟩)]) rfl HO8.out A7 c7 (fun k => k < w7.heap.size) D rfl ?hsrc9 Rp.rf_one ?hcap9 ?hby9 HS8 (fun _ h => h) ?hsv9 ?_
                     case hsrc9 => exact Rp.rf.slice.keptNo ((HO7.out.rf_any (fun k => k < w7.heap.size)).read (fun k hk => (HO7.out.lt k hk).2)) HK8.out
                     case hcap9 => have := HTL.out; have := HDL.out; simp [maxLen]; omega
                     case hby9 => have := HTL.out; have := HDL.out; simp; omega
                     case hsv9 => (intro k hk; have := (HO8.out.lt k hk).1; omega)
                     intro v9 w9 hown9 hg9 _
                     have hk9 : Kp No w3 w9 := (HK7.out.trans' HK8.out).grown hg9 (fun k hk hlt => by have := (HO8.out.lt k hk).1; have := HK7.out.size; omega)
                     obtain ⟨hrs, hbs⟩ := RS.of_own hown9
                     have hsh9 := Shp.of_own hown9
                     have e9 : T ++ [(n, ⟨[], 0, false⟩)] ++ D = ins n ⟨[], 0, false⟩ x.files := by rw [ins_new _ HOK.out.rising HFI.out, hi, hT, hD, List.append_assoc]; rfl
                     rw [e9] at hrs
                     obtain ⟨L9, hL9⟩ : ∃ L9, ins n ⟨[], 0, false⟩ x.files = L9 := ⟨_, rfl⟩
                     have hg9' := ins_get (n := n) ⟨[], 0, false⟩ HOK.out.rising HFI.out
                     have hok9 := H3.out.ok.put n ⟨[], 0, false⟩ HN80.out ⟨Nat.le_refl _, Nat.zero_le _⟩
                     rw [show (stepped x).files = x.files from rfl] at hok9
                     rw [hL9] at hrs hok9
                     rw [hL9, hi] at hg9'
                     obtain ⟨A9, c9, rfl, _, _, _⟩ := id hrs
                     obtain ⟨h10, hk10⟩ := H3.out.anew hk9 hrs (fun k hk => by have := hbs k hk; have := HK7.out.size; omega) hok9 hsh9
                     obtain ⟨g9, rfl, hrb9, hcell9, hfr9⟩ := h10.row.cell (i := i) hg9'
                     obtain ⟨w10, hw10⟩ : ∃ w10, w9.setCell ⟨r, 0, none⟩ (.slice (some ⟨g9, 0, none⟩) L9.length c9) = w10 := ⟨_, rfl⟩
                     rw [hw10] at h10 hk10 hcell9 hfr9
                     have c09 : w9.cell? ⟨r, 0, none⟩ = some _ := Blk.cell (H3.out.keptNo hk9).blk rfl
                     have f09 := Blk.fr (H3.out.keptNo hk9).blk 0
                     have c010 : w10.cell? ⟨r, 0, none⟩ = some (.slice (some ⟨g9, 0, none⟩) L9.length c9) := Blk.cell h10.blk rfl
                     have c210 := hcell9 2 _ rfl
                     have f210 := hfr9 (i * 4 + 2)
                     have Bi9 : (i : Int) < (L9.length : Int) := by have := (List.getElem?_eq_some_iff.1 hg9').1; omega
                     have hno10 : ¬ 9223372036854775807 < (bs []).size + s.size := by have : (bs []).size = 0 := rfl; omega
                     have H10 := Lib.hid h10
                     have HK10 := Lib.hid (HK3.out.trans hk10 (fun k _ e => (HF.out k).2 (.inl e)))
                     have HG9 := Lib.hid hg9'
                     have HBS := Lib.hid hbs
                     have HL9 := Lib.hid hL9
                     clear h10 hk10 hcell9 hfr9 hg9' hbs hL9 hrs hok9 e9 hsh9 hown9 hg9 hk9 c07 F3))
                go_ret
                rw [HZ3.out]
                have hset : L9.set i (n, ⟨s.data.toList, 0, false⟩) = ins n ⟨s.data.toList, 0, false⟩ x.files := by
                  rw [← HL9.out, ← hi]; exact ins_set _ _ HOK.out.rising HFI.out
                have henc := enc4_wait (n := n) (f := ⟨[], 0, false⟩) ⟨Nat.le_refl _, Nat.zero_le _⟩ s
                simp only [List.nil_append] at henc
                obtain ⟨h11, hne⟩ := H10.out.set (q := (n, ⟨s.data.toList, 0, false⟩)) HG9.out (j := 2) (by decide) henc (by
                  show OkD { stepped x with files := L9.set i (n, ⟨s.data.toList, 0, false⟩) }
                  rw [hset]
                  exact H3.out.ok.put n _ HN80.out ⟨Nat.zero_le _, by show s.data.toList.length ≤ _; rw [data_length]; omega⟩)
                have h11' : RIn (w10.setCell ⟨g9, i * 4 + 2, none⟩ (.string (bs [] ++ s))) r (.slice (some ⟨g9, 0, none⟩) L9.length c9) { stepped x with files := L9.set i (n, ⟨s.data.toList, 0, false⟩) } := h11
                rw [hset] at h11'
                have hs3 := HK3.out.size
                have hs7 := HK7.out.size
                refine ⟨rfl, fun k => k = r ∨ rblk (.slice (some ⟨g9, 0, none⟩) L9.length c9) = some k, ⟨_, h11', fun k => Iff.rfl⟩, HK10.out.setCell (p := ⟨g9, i * 4 + 2, none⟩) (fun hlt => absurd hlt ?_) _, ?_⟩
                · have := HBS.out g9 hrb9
                  show ¬ g9 < _
                  omega
                · rintro k (rfl | hk)
                  · exact .inl ((HF.out _).2 (.inl rfl))
                  · have := HBS.out k hk
                    right; omega
            · have hc1 : x.files.length ≤ c ∧ m = x.files.length := by
                obtain ⟨A', c', he, h1, _⟩ := id H3.out.row
                injection he with _ he1 he2
                rw [he2]; exact ⟨h1, he1⟩
              obtain ⟨hc1, rfl⟩ := hc1
              have c0 : w3.cell? ⟨r, 0, none⟩ = some (.slice (some ⟨g, 0, none⟩) x.files.length c) := Blk.cell H3.out.blk rfl
              have hcut := H3.out.row.cutR (l := x.files) hrl
              have hhead := H3.out.row.headR (l := x.files) hrl
              have hdl : (x.files.drop i).length = x.files.length - i := List.length_drop ..
              have htl : (x.files.take i).length = i := by rw [List.length_take]; omega
              obtain ⟨D, hD⟩ : ∃ D, x.files.drop i = D := ⟨_, rfl⟩
              obtain ⟨T, hT⟩ : ∃ T, x.files.take i = T := ⟨_, rfl⟩
              rw [hD] at hcut hdl
              rw [hT] at hhead htl
              have HHEAD := Lib.hid hhead
              have HDL := Lib.hid hdl
              have HTL := Lib.hid htl
              clear hhead hdl htl
              have F3 := Blk.fr H3.out.blk 0
              have hic : i ≤ c := Nat.le_trans hrl hc1
              by_cases hci : c = i
              · have hci2 := hci.symm
                subst hci2
                rw [if_pos rfl, Nat.sub_self] at hcut
                have HDL : Hid (D.length = 0) := Lib.hid (by have := HDL.out; omega)
                have HCUT := Lib.hid hcut
                clear hcut
                go_wp2_with (at_builtin; first
                  | (refine wpList_copy_lit (E := Rp.rf) rfl w3 (.tmp 59) (.tmp 65) 100 rfl 106 56 el_rf rfl _ _ (fun k => k < w3.heap.size) D ?hx HCUT.out Rp.rf_one ?hby ?_
                     case hx => (rw [HDL.out]; rfl)
                     case hby => have := HDL.out; omega
                     intro A7 c7 w7 hown7 hk7
                     have H7 := Lib.hid (H3.out.keptNo hk7)
                     have HO7 := Lib.hid hown7
                     have HK7 := Lib.hid hk7
                     have c07 : w7.cell? ⟨r, 0, none⟩ = some (.slice (some ⟨g, 0, none⟩) x.files.length i) := Blk.cell H7.out.blk rfl
                     have hrlt7 : r < w7.heap.size := Blk.lt H7.out.blk
                     clear c0 hrlt hown7 hk7)
                  | (refine wpList_append_full (E := Rp.rf) rfl (w7.alloc (.cells (enc4 (n, ⟨[], 0, false⟩)).toArray 106)) (.tmp 74) (.tmp 77) 100 rfl 106 56 el_rf (fun k => k < w7.heap.size + 1) (some ⟨g, 0, none⟩) T ?hx1 ?hl1 (some ⟨w7.heap.size, 0, none⟩) 1 [(n, ⟨[], 0, false⟩)] rfl ?hm1 Nat.one_pos Rp.rf_one ?hcap1 ?hby1 ?_
                     case hx1 => (rw [HTL.out]; rfl)
                     case hm1 => exact lit1 w7 _ _ (by omega)
                     case hl1 => exact Rp.rf.slice.keptNo (Rp.rf.slice.more HHEAD.out (fun k hk => Nat.lt_of_lt_of_le hk (Nat.le_succ_of_le HK7.out.size))) (HK7.out.alloc _)
                     case hcap1 => have := HTL.out; simp [maxLen]; omega
                     case hby1 => have := HTL.out; simp; omega
                     intro A8 c8 w8 hown8 hk8
                     have HO8 : Hid (Own Rp.rf w8 (fun k => k < w7.heap.size) (w7.heap.size + 1) 106 (.slice A8 (T.length + 1) c8) (T ++ [(n, ⟨[], 0, false⟩)])) := Lib.hid (by have h := hown8.rf_any (fun k => k < w7.heap.size); simpa using h)
                     have HS8 : w7.heap.size + 1 ≤ w8.heap.size := by have := hk8.size; simpa using this
                     have HK8 : Hid (Kp No w7 w8) := Lib.hid (((Kp.refl No w7).alloc _).trans' hk8)
                     clear hown8 hk8)
                  | (refine wpList_append_rp (E := Rp.rf) rfl w8 (.tmp 78) (.tmp 79) 100 rfl (w7.heap.size + 1) 106 56 el_rf (fun k => k < w7.heap.size) (.slice A8 (T.length + 1) c8) (T ++ [(n, ⟨[], 0, false⟩)]) rfl HO8.out A7 c7 (fun k => k < w7.heap.size) D rfl ?hsrc9 Rp.rf_one ?hcap9 ?hby9 HS8 (fun _ h => h) ?hsv9 ?_
                     case hsrc9 => exact Rp.rf.slice.keptNo ((HO7.out.rf_any (fun k => k < w7.heap.size)).read (fun k hk => (HO7.out.lt k hk).2)) HK8.out
                     case hcap9 => have := HTL.out; have := HDL.out; simp [maxLen]; omega
                     case hby9 => have := HTL.out; have := HDL.out; simp; omega
                     case hsv9 => (intro k hk; have := (HO8.out.lt k hk).1; omega)
                     intro v9 w9 hown9 hg9 _
                     have hk9 : Kp No w3 w9 := (HK7.out.trans' HK8.out).grown hg9 (fun k hk hlt => by have := (HO8.out.lt k hk).1; have := HK7.out.size; omega)
                     obtain ⟨hrs, hbs⟩ := RS.of_own hown9
                     have hsh9 := Shp.of_own hown9
                     have e9 : T ++ [(n, ⟨[], 0, false⟩)] ++ D = ins n ⟨[], 0, false⟩ x.files := by rw [ins_new _ HOK.out.rising HFI.out, hi, hT, hD, List.append_assoc]; rfl
                     rw [e9] at hrs
                     obtain ⟨L9, hL9⟩ : ∃ L9, ins n ⟨[], 0, false⟩ x.files = L9 := ⟨_, rfl⟩
                     have hg9' := ins_get (n := n) ⟨[], 0, false⟩ HOK.out.rising HFI.out
                     have hok9 := H3.out.ok.put n ⟨[], 0, false⟩ HN80.out ⟨Nat.le_refl _, Nat.zero_le _⟩
                     rw [show (stepped x).files = x.files from rfl] at hok9
                     rw [hL9] at hrs hok9
                     rw [hL9, hi] at hg9'
                     obtain ⟨A9, c9, rfl, _, _, _⟩ := id hrs
                     obtain ⟨h10, hk10⟩ := H3.out.anew hk9 hrs (fun k hk => by have := hbs k hk; have := HK7.out.size; omega) hok9 hsh9
                     obtain ⟨g9, rfl, hrb9, hcell9, hfr9⟩ := h10.row.cell (i := i) hg9'
                     obtain ⟨w10, hw10⟩ : ∃ w10, w9.setCell ⟨r, 0, none⟩ (.slice (some ⟨g9, 0, none⟩) L9.length c9) = w10 := ⟨_, rfl⟩
                     rw [hw10] at h10 hk10 hcell9 hfr9
                     have c09 : w9.cell? ⟨r, 0, none⟩ = some _ := Blk.cell (H3.out.keptNo hk9).blk rfl
                     have f09 := Blk.fr (H3.out.keptNo hk9).blk 0
                     have c010 : w10.cell? ⟨r, 0, none⟩ = some (.slice (some ⟨g9, 0, none⟩) L9.length c9) := Blk.cell h10.blk rfl
                     have c210 := hcell9 2 _ rfl
                     have f210 := hfr9 (i * 4 + 2)
                     have Bi9 : (i : Int) < (L9.length : Int) := by have := (List.getElem?_eq_some_iff.1 hg9').1; omega
                     have hno10 : ¬ 9223372036854775807 < (bs []).size + s.size := by have : (bs []).size = 0 := rfl; omega
                     have H10 := Lib.hid h10
                     have HK10 := Lib.hid (HK3.out.trans hk10 (fun k _ e => (HF.out k).2 (.inl e)))
                     have HG9 := Lib.hid hg9'
                     have HBS := Lib.hid hbs
                     have HL9 := Lib.hid hL9
                     clear h10 hk10 hcell9 hfr9 hg9' hbs hL9 hrs hok9 e9 hsh9 hown9 hg9 hk9 c07 F3))
                go_ret
                rw [HZ3.out]
                have hset : L9.set i (n, ⟨s.data.toList, 0, false⟩) = ins n ⟨s.data.toList, 0, false⟩ x.files := by
                  rw [← HL9.out, ← hi]; exact ins_set _ _ HOK.out.rising HFI.out
                have henc := enc4_wait (n := n) (f := ⟨[], 0, false⟩) ⟨Nat.le_refl _, Nat.zero_le _⟩ s
                simp only [List.nil_append] at henc
                obtain ⟨h11, hne⟩ := H10.out.set (q := (n, ⟨s.data.toList, 0, false⟩)) HG9.out (j := 2) (by decide) henc (by
                  show OkD { stepped x with files := L9.set i (n, ⟨s.data.toList, 0, false⟩) }
                  rw [hset]
                  exact H3.out.ok.put n _ HN80.out ⟨Nat.zero_le _, by show s.data.toList.length ≤ _; rw [data_length]; omega⟩)
                have h11' : RIn (w10.setCell ⟨g9, i * 4 + 2, none⟩ (.string (bs [] ++ s))) r (.slice (some ⟨g9, 0, none⟩) L9.length c9) { stepped x with files := L9.set i (n, ⟨s.data.toList, 0, false⟩) } := h11
                rw [hset] at h11'
                have hs3 := HK3.out.size
                have hs7 := HK7.out.size
                refine ⟨rfl, fun k => k = r ∨ rblk (.slice (some ⟨g9, 0, none⟩) L9.length c9) = some k, ⟨_, h11', fun k => Iff.rfl⟩, HK10.out.setCell (p := ⟨g9, i * 4 + 2, none⟩) (fun hlt => absurd hlt ?_) _, ?_⟩
                · have := HBS.out g9 hrb9
                  show ¬ g9 < _
                  omega
                · rintro k (rfl | hk)
                  · exact .inl ((HF.out _).2 (.inl rfl))
                  · have := HBS.out k hk
                    right; omega
              · rw [if_neg hci] at hcut
                have HCUT := Lib.hid hcut
                clear hcut
                go_wp2_with (at_builtin; first
                  | (refine wpList_copy_lit (E := Rp.rf) rfl w3 (.tmp 59) (.tmp 65) 100 rfl 106 56 el_rf rfl _ _ (fun k => k < w3.heap.size) D ?hx HCUT.out Rp.rf_one ?hby ?_
                     case hx => (rw [HDL.out]; rfl)
                     case hby => have := HDL.out; omega
                     intro A7 c7 w7 hown7 hk7
                     have H7 := Lib.hid (H3.out.keptNo hk7)
                     have HO7 := Lib.hid hown7
                     have HK7 := Lib.hid hk7
                     have c07 : w7.cell? ⟨r, 0, none⟩ = some (.slice (some ⟨g, 0, none⟩) x.files.length c) := Blk.cell H7.out.blk rfl
                     have hrlt7 : r < w7.heap.size := Blk.lt H7.out.blk
                     clear c0 hrlt hown7 hk7)
                  | (refine wpList_append_full (E := Rp.rf) rfl (w7.alloc (.cells (enc4 (n, ⟨[], 0, false⟩)).toArray 106)) (.tmp 74) (.tmp 77) 100 rfl 106 56 el_rf (fun k => k < w7.heap.size + 1) (some ⟨g, 0, none⟩) T ?hx1 ?hl1 (some ⟨w7.heap.size, 0, none⟩) 1 [(n, ⟨[], 0, false⟩)] rfl ?hm1 Nat.one_pos Rp.rf_one ?hcap1 ?hby1 ?_
                     case hx1 => (rw [HTL.out]; rfl)
                     case hm1 => exact lit1 w7 _ _ (by omega)
                     case hl1 => exact Rp.rf.slice.keptNo (Rp.rf.slice.more HHEAD.out (fun k hk => Nat.lt_of_lt_of_le hk (Nat.le_succ_of_le HK7.out.size))) (HK7.out.alloc _)
                     case hcap1 => have := HTL.out; simp [maxLen]; omega
                     case hby1 => have := HTL.out; simp; omega
                     intro A8 c8 w8 hown8 hk8
                     have HO8 : Hid (Own Rp.rf w8 (fun k => k < w7.heap.size) (w7.heap.size + 1) 106 (.slice A8 (T.length + 1) c8) (T ++ [(n, ⟨[], 0, false⟩)])) := Lib.hid (by have h := hown8.rf_any (fun k => k < w7.heap.size); simpa using h)
                     have HS8 : w7.heap.size + 1 ≤ w8.heap.size := by have := hk8.size; simpa using this
                     have HK8 : Hid (Kp No w7 w8) := Lib.hid (((Kp.refl No w7).alloc _).trans' hk8)
                     clear hown8 hk8)
                  | (refine wpList_append_rp (E := Rp.rf) rfl w8 (.tmp 78) (.tmp 79) 100 rfl (w7.heap.size + 1) 106 56 el_rf (fun k => k < w7.heap.size) (.slice A8 (T.length + 1) c8) (T ++ [(n, ⟨[], 0, false⟩)]) rfl HO8.out A7 c7 (fun k => k < w7.heap.size) D rfl ?hsrc9 Rp.rf_one ?hcap9 ?hby9 HS8 (fun _ h => h) ?hsv9 ?_
                     case hsrc9 => exact Rp.rf.slice.keptNo ((HO7.out.rf_any (fun k => k < w7.heap.size)).read (fun k hk => (HO7.out.lt k hk).2)) HK8.out
                     case hcap9 => have := HTL.out; have := HDL.out; simp [maxLen]; omega
                     case hby9 => have := HTL.out; have := HDL.out; simp; omega
                     case hsv9 => (intro k hk; have := (HO8.out.lt k hk).1; omega)
                     intro v9 w9 hown9 hg9 _
                     have hk9 : Kp No w3 w9 := (HK7.out.trans' HK8.out).grown hg9 (fun k hk hlt => by have := (HO8.out.lt k hk).1; have := HK7.out.size; omega)
                     obtain ⟨hrs, hbs⟩ := RS.of_own hown9
                     have hsh9 := Shp.of_own hown9
                     have e9 : T ++ [(n, ⟨[], 0, false⟩)] ++ D = ins n ⟨[], 0, false⟩ x.files := by rw [ins_new _ HOK.out.rising HFI.out, hi, hT, hD, List.append_assoc]; rfl
                     rw [e9] at hrs
                     obtain ⟨L9, hL9⟩ : ∃ L9, ins n ⟨[], 0, false⟩ x.files = L9 := ⟨_, rfl⟩
                     have hg9' := ins_get (n := n) ⟨[], 0, false⟩ HOK.out.rising HFI.out
                     have hok9 := H3.out.ok.put n ⟨[], 0, false⟩ HN80.out ⟨Nat.le_refl _, Nat.zero_le _⟩
                     rw [show (stepped x).files = x.files from rfl] at hok9
                     rw [hL9] at hrs hok9
                     rw [hL9, hi] at hg9'
                     obtain ⟨A9, c9, rfl, _, _, _⟩ := id hrs
                     obtain ⟨h10, hk10⟩ := H3.out.anew hk9 hrs (fun k hk => by have := hbs k hk; have := HK7.out.size; omega) hok9 hsh9
                     obtain ⟨g9, rfl, hrb9, hcell9, hfr9⟩ := h10.row.cell (i := i) hg9'
                     obtain ⟨w10, hw10⟩ : ∃ w10, w9.setCell ⟨r, 0, none⟩ (.slice (some ⟨g9, 0, none⟩) L9.length c9) = w10 := ⟨_, rfl⟩
                     rw [hw10] at h10 hk10 hcell9 hfr9
                     have c09 : w9.cell? ⟨r, 0, none⟩ = some _ := Blk.cell (H3.out.keptNo hk9).blk rfl
                     have f09 := Blk.fr (H3.out.keptNo hk9).blk 0
                     have c010 : w10.cell? ⟨r, 0, none⟩ = some (.slice (some ⟨g9, 0, none⟩) L9.length c9) := Blk.cell h10.blk rfl
                     have c210 := hcell9 2 _ rfl
                     have f210 := hfr9 (i * 4 + 2)
                     have Bi9 : (i : Int) < (L9.length : Int) := by have := (List.getElem?_eq_some_iff.1 hg9').1; omega
                     have hno10 : ¬ 9223372036854775807 < (bs []).size + s.size := by have : (bs []).size = 0 := rfl; omega
                     have H10 := Lib.hid h10
                     have HK10 := Lib.hid (HK3.out.trans hk10 (fun k _ e => (HF.out k).2 (.inl e)))
                     have HG9 := Lib.hid hg9'
                     have HBS := Lib.hid hbs
                     have HL9 := Lib.hid hL9
                     clear h10 hk10 hcell9 hfr9 hg9' hbs hL9 hrs hok9 e9 hsh9 hown9 hg9 hk9 c07 F3))
                go_ret
                rw [HZ3.out]
                have hset : L9.set i (n, ⟨s.data.toList, 0, false⟩) = ins n ⟨s.data.toList, 0, false⟩ x.files := by
                  rw [← HL9.out, ← hi]; exact ins_set _ _ HOK.out.rising HFI.out
                have henc := enc4_wait (n := n) (f := ⟨[], 0, false⟩) ⟨Nat.le_refl _, Nat.zero_le _⟩ s
                simp only [List.nil_append] at henc
                obtain ⟨h11, hne⟩ := H10.out.set (q := (n, ⟨s.data.toList, 0, false⟩)) HG9.out (j := 2) (by decide) henc (by
                  show OkD { stepped x with files := L9.set i (n, ⟨s.data.toList, 0, false⟩) }
                  rw [hset]
                  exact H3.out.ok.put n _ HN80.out ⟨Nat.zero_le _, by show s.data.toList.length ≤ _; rw [data_length]; omega⟩)
                have h11' : RIn (w10.setCell ⟨g9, i * 4 + 2, none⟩ (.string (bs [] ++ s))) r (.slice (some ⟨g9, 0, none⟩) L9.length c9) { stepped x with files := L9.set i (n, ⟨s.data.toList, 0, false⟩) } := h11
                rw [hset] at h11'
                have hs3 := HK3.out.size
                have hs7 := HK7.out.size
                refine ⟨rfl, fun k => k = r ∨ rblk (.slice (some ⟨g9, 0, none⟩) L9.length c9) = some k, ⟨_, h11', fun k => Iff.rfl⟩, HK10.out.setCell (p := ⟨g9, i * 4 + 2, none⟩) (fun hlt => absurd hlt ?_) _, ?_⟩
                · have := HBS.out g9 hrb9
                  show ¬ g9 < _
                  omega
                · rintro k (rfl | hk)
                  · exact .inl ((HF.out _).2 (.inl rfl))
                  · have := HBS.out k hk
                    right; omega
      | some f =>
        rw [hfile] at hat
        have hfo := (HOK.out.at hfile).1
        have hp := rank_at HOK.out.rising hfile
        obtain ⟨g, hv, hcell⟩ : ∃ g, (∃ m c, v = .slice (some ⟨g, 0, none⟩) m c ∧ m = x.files.length ∧ m ≤ c) ∧ True := by
          obtain ⟨A', c', rfl, h1, _⟩ := id H.out.row
          obtain ⟨g, rfl, _⟩ := H.out.row.cell hp
          exact ⟨g, ⟨_, _, rfl, rfl, h1⟩, trivial⟩
        obtain ⟨m, c, rfl, rfl, hc1⟩ := hv
        obtain ⟨i, hi⟩ : ∃ i, rank n x.files = i := ⟨_, rfl⟩
        rw [hi] at hat hp
        have hil := (List.getElem?_eq_some_iff.1 hp).1
        have Bi : (i : Int) < (x.files.length : Int) := by omega
        obtain ⟨TL, hTL⟩ : ∃ t, bs (f.bytes.take f.sure) = t := ⟨_, rfl⟩
        obtain ⟨TW, hTW⟩ : ∃ t, bs (f.bytes.drop f.sure) = t := ⟨_, rfl⟩
        have sTL : TL.size = f.sure := by rw [← hTL, bs_size, List.length_take]; have := hfo.1; omega
        have sTW : TW.size = f.bytes.length - f.sure := by rw [← hTW, bs_size, List.length_drop]
        have e1 : IntKind.i64.wrap (1048576 - (TL.size : Int)) = 1048576 - (TL.size : Int) := wrap_i64 (by have := hfo.1; have := hfo.2; omega) (by omega)
        have e2 : IntKind.i64.wrap (1048576 - (TL.size : Int) - (TW.size : Int)) = 1048576 - (TL.size : Int) - (TW.size : Int) := wrap_i64 (by have := hfo.1; have := hfo.2; omega) (by omega)
        have HZ1 : Hid (Z = if 1048576 < f.bytes.length + s.size then (52, x) else stepD x fun y => { y with files := ins n { f with bytes := f.bytes ++ s.data.toList } y.files }) := Lib.hid (by
          rw [← HZ.out]; unfold fileD; rw [hfile]; rfl)
        have HFO := Lib.hid hfo
        have HFI := Lib.hid hfile
        have HI := Lib.hid hi
        have HP := Lib.hid hp
        have HTL := Lib.hid hTL
        have HTW := Lib.hid hTW
        have HSZ := Lib.hid (And.intro sTL sTW)
        clear hfo hfile hi hp hTL hTW sTL sTW hcell HZ
        go_wp2_with fail
        refine hat.mono ?_
        rintro e w2 ⟨rfl, hk⟩
        have HK2 := Lib.hid (HK.out.trans' hk)
        have H2 := Lib.hid (H1.out.keptNo hk)
        obtain ⟨g', he, _, hcell, _⟩ := H2.out.row.cell HP.out
        injection he with he; injection he with he
        subst he
        have c1 : w2.cell? ⟨g, i * 4 + 1, none⟩ = some (.string TL) := by rw [← HTL.out]; exact hcell 1 _ rfl
        have c2 : w2.cell? ⟨g, i * 4 + 2, none⟩ = some (.string TW) := by rw [← HTW.out]; exact hcell 2 _ rfl
        have c0 : w2.cell? ⟨r, 0, none⟩ = some (.slice (some ⟨g, 0, none⟩) x.files.length c) := Blk.cell H2.out.blk rfl
        clear hat hk hcell
        by_cases hbig : 1048576 - (TL.size : Int) - (TW.size : Int) < (s.size : Int)
        · have HZ2 : Hid (Z = (52, x)) := Lib.hid (by
            rw [HZ1.out]
            exact if_pos (by have := HSZ.out; have := HFO.out.1; omega))
          go_wp2_with fail
          go_quiet (fail)
          go_wp2_with fail
          go_ret
          rw [HZ2.out]
          exact ⟨rfl, F, HA0.out.keptNo (HK2.out.drewN _), (HK2.out.drewN _).any, fun k hk => .inl hk⟩
        · have HZ2 : Hid (Z = stepD x fun y => { y with files := ins n { f with bytes := f.bytes ++ s.data.toList } y.files }) := Lib.hid (by
            rw [HZ1.out]
            exact if_neg (by have := HSZ.out; have := HFO.out.1; omega))
          have hsm : (s.size : Int) ≤ 1048576 := by have := HSZ.out; have := HFO.out.1; omega
          go_wp2_with fail
          go_quiet (fail)
          go_wp2_with fail
          by_cases hf : x.fuse = 0
          · have e : (stepD x fun y => { y with files := ins n { f with bytes := f.bytes ++ s.data.toList } y.files }) = (50, { x with off := true }) := by unfold stepD; rw [if_pos hf]
            have HZ3 := Lib.hid (HZ2.out.trans e)
            clear e
            refine (r_step_out r _ x _ (H2.out.keptNo ((Kp.refl _ _).drewN _)).blk hf).mono ?_
            rintro e w3 ⟨rfl, hb, hk⟩
            have H3 := Lib.hid ((H2.out.keptNo ((Kp.refl _ _).drewN _)).turned hk hb rfl (H2.out.ok.off true))
            have HK3 := Lib.hid ((HK2.out.drewN _).any.trans hk (fun k _ e => (HF.out k).2 (.inl e)))
            clear hb hk hf hbig
            go_wp2_with fail
            go_ret
            rw [HZ3.out]
            exact ⟨rfl, F, ⟨_, H3.out, HF.out⟩, HK3.out, fun k hk => .inl hk⟩
          · have e : (stepD x fun y => { y with files := ins n { f with bytes := f.bytes ++ s.data.toList } y.files }) = (0, { stepped x with files := ins n { f with bytes := f.bytes ++ s.data.toList } x.files }) := by unfold stepD; rw [if_neg hf]; rfl
            have HZ3 := Lib.hid (HZ2.out.trans e)
            clear e
            refine (r_step r _ x _ (H2.out.keptNo ((Kp.refl _ _).drewN _)).blk H2.out.ok hf).mono ?_
            rintro e w3 ⟨rfl, hb, hk⟩
            have H3 := Lib.hid ((H2.out.keptNo ((Kp.refl _ _).drewN _)).turned (y := stepped x) hk hb rfl H2.out.ok.stepped)
            have HK3 := Lib.hid ((HK2.out.drewN _).any.trans hk (fun k _ e => (HF.out k).2 (.inl e)))
            obtain ⟨g', he, hrb, hcell, hfr⟩ := H3.out.row.cell HP.out
            injection he with he; injection he with he
            subst he
            have c3 : w3.cell? ⟨g, i * 4 + 2, none⟩ = some (.string TW) := by rw [← HTW.out]; exact hcell 2 _ rfl
            have f3 := hfr (i * 4 + 2)
            have c4 : w3.cell? ⟨r, 0, none⟩ = some (.slice (some ⟨g, 0, none⟩) x.files.length c) := Blk.cell H3.out.blk rfl
            have hno : ¬ 9223372036854775807 < TW.size + s.size := by have := HSZ.out; have := HFO.out.2; omega
            clear hb hk hf hbig hcell hfr c0 c1 c2
            go_wp2_with fail
            go_ret
            rw [HZ3.out]
            have hset : x.files.set i (n, { f with bytes := f.bytes ++ s.data.toList }) = ins n { f with bytes := f.bytes ++ s.data.toList } x.files := by
              rw [← HI.out]; exact (ins_over _ HOK.out.rising HFI.out).symm
            have henc := enc4_wait (n := n) HFO.out s
            rw [HTW.out] at henc
            have hokf : OkF { f with bytes := f.bytes ++ s.data.toList } := ⟨by show f.sure ≤ (f.bytes ++ s.data.toList).length; rw [List.length_append]; have := HFO.out.1; omega, by show (f.bytes ++ s.data.toList).length ≤ _; rw [List.length_append, data_length]; have := HSZ.out; have := HFO.out.1; omega⟩
            obtain ⟨h11, hne⟩ := H3.out.set (q := (n, { f with bytes := f.bytes ++ s.data.toList })) HP.out (j := 2) (by decide) henc (by
              show OkD { stepped x with files := x.files.set i (n, { f with bytes := f.bytes ++ s.data.toList }) }
              rw [hset]
              exact H3.out.ok.put n _ HN80.out hokf)
            have h11' : RIn (w3.setCell ⟨g, i * 4 + 2, none⟩ (.string (TW ++ s))) r (.slice (some ⟨g, 0, none⟩) x.files.length c) { stepped x with files := x.files.set i (n, { f with bytes := f.bytes ++ s.data.toList }) } := h11
            rw [hset] at h11'
            exact ⟨rfl, F, ⟨_, h11', HF.out⟩, HK3.out.setCell (p := ⟨g, i * 4 + 2, none⟩) (fun _ => (HF.out g).2 (.inr hrb)) _, fun k hk => .inl hk⟩
end Go.Proofs.Ytflodiljgphkdaa
