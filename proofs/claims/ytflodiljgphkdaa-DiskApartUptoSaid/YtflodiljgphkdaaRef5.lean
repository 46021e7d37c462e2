/-
  The document's drive: Remove.
-/
import Derived.Test.YtflodiljgphkdaaRef4
namespace Go.Proofs.Ytflodiljgphkdaa
open Go.RowKit Go.ChangeShapes Go.WideShapes Go.ChangeAt

theorem RIn.anew2 {w : World} {r : Nat} {v : Value} {x : DV} {w9 : World} {v9 : Value} {l : List (ByteArray × FV)} (h : RIn w r v x) (hk : Kp No w w9) (hrs : RS w9 v9 l) (hb : ∀ k, rblk v9 = some k → k ≠ r) (ho : OkD { x with files := l }) (hsh : Shp v9) :
    RIn (w9.setCell ⟨r, 0, none⟩ v9) r v9 { x with files := l } ∧ Kp (· = r) w (w9.setCell ⟨r, 0, none⟩ v9) := by
  have h1 := h.keptNo hk
  refine ⟨⟨Blk.set h1.blk 0 v9, ?_, ho, hsh⟩, (hk.any (S := (· = r))).setCell (p := ⟨r, 0, none⟩) (fun _ => rfl) _⟩
  exact RS.kept (S := (· = r)) hrs ((Kp.refl (· = r) w9).setCell (p := ⟨r, 0, none⟩) (fun _ => rfl) _) (fun k hk e => hb k hk e)

set_option maxRecDepth 100000 in
set_option maxHeartbeats 1000000 in
theorem r_remove (r : Nat) (x : DV) (F : Nat → Prop) (n : ByteArray) (w : World) (h : RAt w r x F) (hn : n.size ≤ maxLen) (hx : x.files.length ≤ 1000000) :
    Calls Try.prog 67 #[.pointer (some ⟨r, 0, none⟩), .string n] w fun e w' => e = .returned (.int .i64 (removeD n x).1) ∧ ∃ F', RAt w' r (removeD n x).2 F' ∧ Upd F w w' F' := by
  obtain ⟨v, h, hF⟩ := h
  have H := Lib.hid h
  have HA0 : Hid (RAt w r x F) := Lib.hid ⟨v, h, hF⟩
  have HF := Lib.hid hF
  have hnamed := r_named n hn w
  have HOK := Lib.hid h.ok
  clear h hF
  have hn80 : fineN n = true → n.size ≤ 80 := by
    intro h
    unfold fineN at h
    simp only [Bool.and_eq_true, decide_eq_true_eq] at h
    exact h.2.1
  cases hfn : fineN n with
  | false =>
    have e : removeD n x = (1, x) := by unfold removeD knownD readyD; rw [hfn]; rfl
    rw [e]
    rw [hfn] at hnamed
    clear e hfn hn80
    go_enter Try.func67, Try.ntmps67
    go_wp2_with fail
    refine hnamed.mono ?_
    rintro e w1 ⟨rfl, hk⟩
    have HK := Lib.hid hk
    clear hk hnamed
    go_wp2_with fail
    go_ret
    exact ⟨rfl, F, HA0.out.keptNo HK.out, HK.out.any, fun k hk => .inl hk⟩
  | true =>
    rw [hfn] at hnamed
    have HN80 := Lib.hid (hn80 hfn)
    clear hn80
    cases hoff : x.off with
    | true =>
      have e : removeD n x = (50, x) := by unfold removeD knownD readyD; rw [hfn, hoff]; rfl
      rw [e]
      clear e hfn
      go_enter Try.func67, Try.ntmps67
      go_wp2_with fail
      refine hnamed.mono ?_
      rintro e w1 ⟨rfl, hk⟩
      have HK := Lib.hid hk
      have c2 : w1.cell? ⟨r, 2, none⟩ = some (.bool x.off) := Blk.cell (H.out.keptNo hk).blk rfl
      rw [hoff] at c2
      clear hk hnamed hoff
      go_wp2_with fail
      go_ret
      exact ⟨rfl, F, HA0.out.keptNo HK.out, HK.out.any, fun k hk => .inl hk⟩
    | false =>
      cases hfile : mget n x.files with
      | none =>
        have e : removeD n x = (51, x) := by unfold removeD knownD readyD fileD; rw [hfn, hoff, hfile]; rfl
        rw [e]
        clear e hfn
        go_enter Try.func67, Try.ntmps67
        go_wp2_with fail
        refine hnamed.mono ?_
        rintro e w1 ⟨rfl, hk⟩
        have HK := Lib.hid hk
        have c2 : w1.cell? ⟨r, 2, none⟩ = some (.bool x.off) := Blk.cell (H.out.keptNo hk).blk rfl
        rw [hoff] at c2
        have hat := r_at r v x n w1 (H.out.keptNo hk)
        rw [hfile] at hat
        clear hk hnamed hoff hfile
        go_wp2_with fail
        refine hat.mono ?_
        rintro e w2 ⟨rfl, hk⟩
        have HK2 := Lib.hid (HK.out.trans' hk)
        clear hat hk c2
        go_wp2_with fail
        go_ret
        exact ⟨rfl, F, HA0.out.keptNo HK2.out, HK2.out.any, fun k hk => .inl hk⟩
      | some f =>
        obtain ⟨g, c, rfl, hc, hrb⟩ := H.out.file hfile
        have hp := rank_at HOK.out.rising hfile
        obtain ⟨Z, hZ⟩ : ∃ Z, removeD n x = Z := ⟨_, rfl⟩
        rw [hZ]
        have HZ : Hid (Z = stepD x fun y => { y with files := mdel n y.files }) := Lib.hid (by rw [← hZ]; unfold removeD knownD readyD fileD; rw [hfn, hoff, hfile]; rfl)
        clear hZ hfn
        go_enter Try.func67, Try.ntmps67
        go_wp2_with fail
        refine hnamed.mono ?_
        rintro e w1 ⟨rfl, hk⟩
        have HK := Lib.hid hk
        have c2 : w1.cell? ⟨r, 2, none⟩ = some (.bool x.off) := Blk.cell (H.out.keptNo hk).blk rfl
        rw [hoff] at c2
        have hat := r_at r _ x n w1 (H.out.keptNo hk)
        have H1 := Lib.hid (H.out.keptNo hk)
        rw [hfile] at hat
        have HFI := Lib.hid hfile
        obtain ⟨i, hi⟩ : ∃ i, rank n x.files = i := ⟨_, rfl⟩
        rw [hi] at hat hp
        have hil := (List.getElem?_eq_some_iff.1 hp).1
        have Bi : (i : Int) < (x.files.length : Int) := by omega
        have HP := Lib.hid hp
        have HI := Lib.hid hi
        have HRB := Lib.hid hrb
        clear hk hnamed hoff hfile hp hi hrb
        go_wp2_with fail
        refine hat.mono ?_
        rintro e w2 ⟨rfl, hk⟩
        have HK2 := Lib.hid (HK.out.trans' hk)
        have H2 := Lib.hid (H1.out.keptNo hk)
        clear hat hk c2
        go_wp2_with fail
        by_cases hf : x.fuse = 0
        · have HZ3 : Hid (Z = (50, { x with off := true })) := Lib.hid (by rw [HZ.out]; unfold stepD; rw [if_pos hf])
          refine (r_step_out r _ x _ H2.out.blk hf).mono ?_
          rintro e w3 ⟨rfl, hb, hk⟩
          have H3 := Lib.hid (H2.out.turned hk hb rfl (H2.out.ok.off true))
          have HK3 := Lib.hid (HK2.out.any.trans hk (fun k _ e => (HF.out k).2 (.inl e)))
          clear hb hk hf
          go_wp2_with fail
          go_ret
          rw [HZ3.out]
          exact ⟨rfl, F, ⟨_, H3.out, HF.out⟩, HK3.out, fun k hk => .inl hk⟩
        · have HZ3 : Hid (Z = (0, { stepped x with files := mdel n x.files })) := Lib.hid (by rw [HZ.out]; unfold stepD; rw [if_neg hf]; rfl)
          refine (r_step r _ x _ H2.out.blk H2.out.ok hf).mono ?_
          rintro e w3 ⟨rfl, hb, hk⟩
          have H3 := Lib.hid (H2.out.turned (y := stepped x) hk hb rfl H2.out.ok.stepped)
          have HK3 := Lib.hid (HK2.out.any.trans hk (fun k _ e => (HF.out k).2 (.inl e)))
          clear hb hk hf
          have c4 : w3.cell? ⟨r, 0, none⟩ = some (.slice (some ⟨g, 0, none⟩) x.files.length c) := Blk.cell H3.out.blk rfl
          have hdel : mdel n x.files = x.files.take i ++ x.files.drop (i + 1) := by rw [← HI.out]; exact mdel_at HOK.out.rising HFI.out
          have F3 := Blk.fr H3.out.blk 0
          have HDEL := Lib.hid hdel
          clear hdel
          have hne : g ≠ r := fun e => H3.out.ne (e ▸ HRB.out)
          have hwr : IntKind.i64.wrap ((i : Int) + 1) = (i : Int) + 1 := wrap_i64 (by omega) (by omega)
          by_cases hl : x.files.length = i + 1
          · have hic : i ≤ c := by omega
            have hic2 : i + 1 ≤ c := by omega
            have h9 : ∀ w9, Kp No w3 w9 → RIn (w9.setCell ⟨r, 0, none⟩ (.slice (some ⟨g, 0, none⟩) i i)) r (.slice (some ⟨g, 0, none⟩) i i) { stepped x with files := mdel n x.files } ∧ Kp (· = r) w3 (w9.setCell ⟨r, 0, none⟩ (.slice (some ⟨g, 0, none⟩) i i)) := by
              intro w9 hk9
              have hd : mdel n x.files = x.files.take i := by
                rw [HDEL.out, List.drop_eq_nil_of_le (by omega), List.append_nil]
              have ho := H3.out.ok.del n
              rw [show (stepped x).files = x.files from rfl, hd] at ho
              rw [hd]
              refine H3.out.anew2 hk9 ((H3.out.row.take (l := x.files) (by omega)).keptNo hk9) (fun k hk => ?_) ho (.inr ⟨_, _, _, rfl⟩)
              have hk : (if i = 0 then none else some g) = some k := hk
              split at hk
              · cases hk
              · injection hk with hk; rw [← hk]; exact hne
            have H9 := Lib.hid h9
            clear h9
            rw [hl] at c4
            go_wp2_with fail
            refine Reg.wp_region_plan [⟨0, false, []⟩, ⟨1, false, []⟩, ⟨2, false, []⟩, ⟨3, false, []⟩, ⟨4, false, []⟩, ⟨5, false, []⟩, ⟨6, false, []⟩, ⟨7, false, []⟩, ⟨8, false, []⟩, ⟨9, false, []⟩, ⟨10, false, []⟩, ⟨11, false, []⟩, ⟨12, false, []⟩, ⟨13, false, []⟩, ⟨14, false, []⟩, ⟨15, true, []⟩, ⟨16, false, []⟩, ⟨17, false, []⟩, ⟨18, true, []⟩] rfl (by kernel_rfl) ?_
            repeat (first | (refine Reg.look rfl rfl rfl (by go_simp; rfl) rfl ?_; go_simp) | (refine Reg.skip rfl rfl rfl ?_; go_simp))
            refine Reg.act rfl ?_
            refine wpList_append_none rfl _ (.tmp 32) (.tmp 39) 100 106 rfl 4 56 el_rf (some ⟨g, 0, none⟩) i i (Nat.le_refl _) rfl (if c = i + 1 then some ⟨g, 0, none⟩ else some ⟨g, (i + 1) * 4, none⟩) (c - (i + 1)) rfl ?_
            go_wp2_with fail
            all_goals
              refine ⟨Reg.anew_nil, ?_⟩
              repeat (first | (refine Reg.look rfl rfl rfl (by go_simp; rfl) rfl ?_; go_simp) | (refine Reg.skip rfl rfl rfl ?_; go_simp))
              refine Reg.act rfl ?_
              go_wp2_with fail
              refine ⟨Reg.anew_nil, ?_⟩
              (refine Reg.done ?_; simp only [Exit.then])
              go_wp2_with fail
              go_ret
              obtain ⟨h10, hk10⟩ := H9.out w3.drew ((Kp.refl _ _).drew)
              rw [HZ3.out]
              refine ⟨rfl, fun k => k = r ∨ rblk (.slice (some ⟨g, 0, none⟩) i i) = some k, ⟨_, h10, fun k => Iff.rfl⟩, HK3.out.trans hk10 (fun k _ e => (HF.out k).2 (.inl e)), fun k hk => .inl ?_⟩
              rcases hk with rfl | hk
              · exact (HF.out _).2 (.inl rfl)
              · have hk : (if i = 0 then none else some g) = some k := hk
                split at hk
                · cases hk
                · injection hk with hk; rw [← hk]; exact (HF.out g).2 (.inr HRB.out)
          · have hci : ¬ c = i + 1 := by omega
            have hil2 : (i : Int) + 1 ≤ (x.files.length : Int) := by omega
            have hic : i ≤ c := by omega
            have hcut := (H3.out.keptNo ((Kp.refl No w3).drew)).row.cutR (l := x.files) (i := i + 1) (by omega)
            have hhead := (H3.out.keptNo ((Kp.refl No w3).drew)).row.headR (l := x.files) (i := i) (by omega)
            rw [if_neg hci] at hcut
            have hdl : (x.files.drop (i + 1)).length = x.files.length - (i + 1) := List.length_drop ..
            have htl : (x.files.take i).length = i := by rw [List.length_take]; omega
            obtain ⟨D, hD⟩ : ∃ D, x.files.drop (i + 1) = D := ⟨_, rfl⟩
            obtain ⟨T, hT⟩ : ∃ T, x.files.take i = T := ⟨_, rfl⟩
            rw [hD] at hcut hdl
            rw [hT] at hhead htl
            have HDEL2 : Hid (mdel n x.files = T ++ D) := Lib.hid (by rw [HDEL.out, hD, hT])
            have HCUT := Lib.hid hcut
            have HHEAD := Lib.hid hhead
            have HDL := Lib.hid hdl
            have HTL := Lib.hid htl
            clear hcut hhead hdl htl hD hT
            go_wp2_with fail
            refine Reg.wp_region_plan [⟨0, false, []⟩, ⟨1, false, []⟩, ⟨2, false, []⟩, ⟨3, false, []⟩, ⟨4, false, []⟩, ⟨5, false, []⟩, ⟨6, false, []⟩, ⟨7, false, []⟩, ⟨8, false, []⟩, ⟨9, false, []⟩, ⟨10, false, []⟩, ⟨11, false, []⟩, ⟨12, false, []⟩, ⟨13, false, []⟩, ⟨14, false, []⟩, ⟨15, true, []⟩, ⟨16, false, []⟩, ⟨17, false, []⟩, ⟨18, true, []⟩] rfl (by kernel_rfl) ?_
            repeat (first | (refine Reg.look rfl rfl rfl (by go_simp; rfl) rfl ?_; go_simp) | (refine Reg.skip rfl rfl rfl ?_; go_simp))
            refine Reg.act rfl ?_
            refine wpList_append_full (E := Rp.rf) rfl w3.drew (.tmp 32) (.tmp 39) 100 rfl 106 56 el_rf (fun k => k < w3.drew.heap.size) (some ⟨g, 0, none⟩) T ?hx1 HHEAD.out (some ⟨g, (i + 1) * 4, none⟩) (c - (i + 1)) D ?hx2 HCUT.out ?h0 Rp.rf_one ?hcap1 ?hby1 ?_
            case hx1 => rw [HTL.out]; rfl
            case hx2 => rw [HDL.out]; rfl
            case h0 => have := HDL.out; omega
            case hcap1 => have := HTL.out; have := HDL.out; simp [maxLen]; omega
            case hby1 => have := HTL.out; have := HDL.out; omega
            intro A8 c8 w8 hown8 hk8
            have hk9 : Kp No w3 w8 := ((Kp.refl _ _).drew).trans' hk8
            obtain ⟨hrs, hbs⟩ := RS.of_own hown8
            have ho := H3.out.ok.del n
            rw [show (stepped x).files = x.files from rfl, HDEL2.out] at ho
            have hbs' : ∀ k, rblk (.slice A8 (T ++ D).length c8) = some k → w3.heap.size ≤ k := fun k hk => hbs k hk
            have h9 := H3.out.anew hk9 hrs hbs' ho (Shp.of_own hown8)
            have c8' : w8.cell? ⟨r, 0, none⟩ = some _ := Blk.cell (H3.out.keptNo hk9).blk rfl
            have f8' := Blk.fr (H3.out.keptNo hk9).blk 0
            obtain ⟨L8, hV8⟩ : ∃ V, (T ++ D).length = V := ⟨_, rfl⟩
            rw [hV8] at h9 hbs'
            rw [hV8]
            rw [← HDEL2.out] at h9
            have H9 := Lib.hid h9
            have HB9 := Lib.hid hbs'
            clear h9 hbs' ho hrs hbs hown8 hk8 c4 F3 hV8
            go_wp2_with fail
            refine ⟨Reg.anew_nil, ?_⟩
            repeat (first | (refine Reg.look rfl rfl rfl (by go_simp; rfl) rfl ?_; go_simp) | (refine Reg.skip rfl rfl rfl ?_; go_simp))
            refine Reg.act rfl ?_
            go_wp2_with fail
            refine ⟨Reg.anew_nil, ?_⟩
            (refine Reg.done ?_; simp only [Exit.then])
            go_wp2_with fail
            go_ret
            rw [HZ3.out]
            obtain ⟨h10, hk10⟩ := H9.out
            refine ⟨rfl, fun k => k = r ∨ rblk (.slice A8 L8 c8) = some k, ⟨_, h10, fun k => Iff.rfl⟩, HK3.out.trans hk10 (fun k _ e => (HF.out k).2 (.inl e)), fun k hk => ?_⟩
            rcases hk with rfl | hk
            · exact .inl ((HF.out _).2 (.inl rfl))
            · have := HB9.out k hk
              have := HK3.out.size
              right; omega
end Go.Proofs.Ytflodiljgphkdaa
