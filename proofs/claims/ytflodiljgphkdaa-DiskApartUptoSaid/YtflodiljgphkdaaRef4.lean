/-
  The document's drive: Sync.
-/
import Derived.Test.YtflodiljgphkdaaRef3
import Derived.Test.YtflodiljgphkdaaReg
namespace Go.Proofs.Ytflodiljgphkdaa
open Go.RowKit Go.ChangeShapes Go.WideShapes Go.ChangeAt

theorem RIn.sync {w : World} {r g m c : Nat} {y : DV} (h : RIn w r (.slice (some ⟨g, 0, none⟩) m c) y) {i : Nat} {n : ByteArray} {f : FV} (hp : y.files[i]? = some (n, f)) (ho : OkD { y with files := y.files.set i (n, syncF f) }) :
    RIn (((w.setCell ⟨g, i * 4 + 1, none⟩ (.string (bs f.bytes))).setCell ⟨g, i * 4 + 2, none⟩ (.string ByteArray.empty)).setCell ⟨g, i * 4 + 3, none⟩ (.bool true)) r (.slice (some ⟨g, 0, none⟩) m c) { y with files := y.files.set i (n, syncF f) } := by
  have hne : g ≠ r := by
    obtain ⟨g', he, hb, _⟩ := h.row.cell hp
    injection he with he; injection he with he
    subst he
    rintro rfl
    exact h.ne hb
  have hil := (List.getElem?_eq_some_iff.1 hp).1
  have he0 : (y.files.map enc4)[i]? = some (enc4 (n, f)) := by rw [List.getElem?_map, hp]; rfl
  have h1 := h.row.toE.set he0 (j := 1) (u := .string (bs f.bytes)) (by decide)
  have h2 := h1.set (i := i) (e := (enc4 (n, f)).set 1 (.string (bs f.bytes))) (j := 2) (u := .string ByteArray.empty) (by rw [List.getElem?_set, if_pos rfl, if_pos (by rw [List.length_map]; exact hil)]) (by decide)
  rw [List.set_set] at h2
  have h3 := h2.set (i := i) (e := ((enc4 (n, f)).set 1 (.string (bs f.bytes))).set 2 (.string ByteArray.empty)) (j := 3) (u := .bool true) (by rw [List.getElem?_set, if_pos rfl, if_pos (by rw [List.length_map]; exact hil)]) (by decide)
  rw [List.set_set] at h3
  have he3 : (((enc4 (n, f)).set 1 (.string (bs f.bytes))).set 2 (.string ByteArray.empty)).set 3 (.bool true) = enc4 (n, syncF f) := by
    simp only [enc4, syncF, List.set_cons_succ, List.set_cons_zero, List.take_length, List.drop_length]
    rfl
  rw [he3, ← List.map_set] at h3
  have hk : Kp (· = g) w (((w.setCell ⟨g, i * 4 + 1, none⟩ (.string (bs f.bytes))).setCell ⟨g, i * 4 + 2, none⟩ (.string ByteArray.empty)).setCell ⟨g, i * 4 + 3, none⟩ (.bool true)) :=
    (((Kp.refl (· = g) w).setCell (p := ⟨g, i * 4 + 1, none⟩) (fun _ => rfl) _).setCell (p := ⟨g, i * 4 + 2, none⟩) (fun _ => rfl) _).setCell (p := ⟨g, i * 4 + 3, none⟩) (fun _ => rfl) _
  exact ⟨Blk.kept h.blk hk (fun e => hne e.symm), RS.ofE h3, ho, h.sh⟩

/-! what stands ahead of a step, and the step: a file that is there -/
set_option maxRecDepth 100000 in
set_option maxHeartbeats 1000000 in
theorem r_sync (r : Nat) (x : DV) (F : Nat → Prop) (n : ByteArray) (w : World) (h : RAt w r x F) (hn : n.size ≤ maxLen) :
    Calls Try.prog 66 #[.pointer (some ⟨r, 0, none⟩), .string n] w fun e w' => e = .returned (.int .i64 (syncD n x).1) ∧ ∃ F', RAt w' r (syncD n x).2 F' ∧ Upd F w w' F' := by
  obtain ⟨v, h, hF⟩ := h
  have H := Lib.hid h
  have HA0 : Hid (RAt w r x F) := Lib.hid ⟨v, h, hF⟩
  have HF := Lib.hid hF
  have hnamed := r_named n hn w
  have HOK := Lib.hid h.ok
  clear h hF
  have hn80 : fineN n = true → n.size ≤ 80 := by
    intro h
    unfold fineN at h
    simp only [Bool.and_eq_true, decide_eq_true_eq] at h
    exact h.2.1
  cases hfn : fineN n with
  | false =>
    have e : syncD n x = (1, x) := by unfold syncD knownD readyD; rw [hfn]; rfl
    rw [e]
    rw [hfn] at hnamed
    clear e hfn hn80
    go_enter Try.func66, Try.ntmps66
    go_wp2_with fail
    refine hnamed.mono ?_
    rintro e w1 ⟨rfl, hk⟩
    have HK := Lib.hid hk
    clear hk hnamed
    go_wp2_with fail
    go_ret
    exact ⟨rfl, F, HA0.out.keptNo HK.out, HK.out.any, fun k hk => .inl hk⟩
  | true =>
    rw [hfn] at hnamed
    have HN80 := Lib.hid (hn80 hfn)
    clear hn80
    cases hoff : x.off with
    | true =>
      have e : syncD n x = (50, x) := by unfold syncD knownD readyD; rw [hfn, hoff]; rfl
      rw [e]
      clear e hfn
      go_enter Try.func66, Try.ntmps66
      go_wp2_with fail
      refine hnamed.mono ?_
      rintro e w1 ⟨rfl, hk⟩
      have HK := Lib.hid hk
      have c2 : w1.cell? ⟨r, 2, none⟩ = some (.bool x.off) := Blk.cell (H.out.keptNo hk).blk rfl
      rw [hoff] at c2
      clear hk hnamed hoff
      go_wp2_with fail
      go_ret
      exact ⟨rfl, F, HA0.out.keptNo HK.out, HK.out.any, fun k hk => .inl hk⟩
    | false =>
      cases hfile : mget n x.files with
      | none =>
        have e : syncD n x = (51, x) := by unfold syncD knownD readyD fileD; rw [hfn, hoff, hfile]; rfl
        rw [e]
        clear e hfn
        go_enter Try.func66, Try.ntmps66
        go_wp2_with fail
        refine hnamed.mono ?_
        rintro e w1 ⟨rfl, hk⟩
        have HK := Lib.hid hk
        have c2 : w1.cell? ⟨r, 2, none⟩ = some (.bool x.off) := Blk.cell (H.out.keptNo hk).blk rfl
        rw [hoff] at c2
        have hat := r_at r v x n w1 (H.out.keptNo hk)
        rw [hfile] at hat
        clear hk hnamed hoff hfile
        go_wp2_with fail
        refine hat.mono ?_
        rintro e w2 ⟨rfl, hk⟩
        have HK2 := Lib.hid (HK.out.trans' hk)
        clear hat hk c2
        go_wp2_with fail
        go_ret
        exact ⟨rfl, F, HA0.out.keptNo HK2.out, HK2.out.any, fun k hk => .inl hk⟩
      | some f =>
        obtain ⟨g, c, rfl, hc, hrb⟩ := H.out.file hfile
        have hp := rank_at HOK.out.rising hfile
        obtain ⟨Z, hZ⟩ : ∃ Z, syncD n x = Z := ⟨_, rfl⟩
        rw [hZ]
        have HZ : Hid (Z = stepD x fun y => { y with files := ins n (syncF f) y.files }) := Lib.hid (by rw [← hZ]; unfold syncD knownD readyD fileD; rw [hfn, hoff, hfile]; rfl)
        clear hZ hfn
        go_enter Try.func66, Try.ntmps66
        go_wp2_with fail
        refine hnamed.mono ?_
        rintro e w1 ⟨rfl, hk⟩
        have HK := Lib.hid hk
        have c2 : w1.cell? ⟨r, 2, none⟩ = some (.bool x.off) := Blk.cell (H.out.keptNo hk).blk rfl
        rw [hoff] at c2
        have hat := r_at r _ x n w1 (H.out.keptNo hk)
        have H1 := Lib.hid (H.out.keptNo hk)
        rw [hfile] at hat
        have HFI := Lib.hid hfile
        obtain ⟨i, hi⟩ : ∃ i, rank n x.files = i := ⟨_, rfl⟩
        rw [hi] at hat hp
        have hil := (List.getElem?_eq_some_iff.1 hp).1
        have Bi : (i : Int) < (x.files.length : Int) := by omega
        have HP := Lib.hid hp
        have HI := Lib.hid hi
        have HRB := Lib.hid hrb
        clear hk hnamed hoff hfile hp hi hrb
        go_wp2_with fail
        refine hat.mono ?_
        rintro e w2 ⟨rfl, hk⟩
        have HK2 := Lib.hid (HK.out.trans' hk)
        have H2 := Lib.hid (H1.out.keptNo hk)
        clear hat hk c2
        go_wp2_with fail
        by_cases hf : x.fuse = 0
        · have HZ3 : Hid (Z = (50, { x with off := true })) := Lib.hid (by rw [HZ.out]; unfold stepD; rw [if_pos hf])
          refine (r_step_out r _ x _ H2.out.blk hf).mono ?_
          rintro e w3 ⟨rfl, hb, hk⟩
          have H3 := Lib.hid (H2.out.turned hk hb rfl (H2.out.ok.off true))
          have HK3 := Lib.hid (HK2.out.any.trans hk (fun k _ e => (HF.out k).2 (.inl e)))
          clear hb hk hf
          go_wp2_with fail
          go_ret
          rw [HZ3.out]
          exact ⟨rfl, F, ⟨_, H3.out, HF.out⟩, HK3.out, fun k hk => .inl hk⟩
        · have HZ3 : Hid (Z = (0, { stepped x with files := ins n (syncF f) x.files })) := Lib.hid (by rw [HZ.out]; unfold stepD; rw [if_neg hf]; rfl)
          refine (r_step r _ x _ H2.out.blk H2.out.ok hf).mono ?_
          rintro e w3 ⟨rfl, hb, hk⟩
          have H3 := Lib.hid (H2.out.turned (y := stepped x) hk hb rfl H2.out.ok.stepped)
          have HK3 := Lib.hid (HK2.out.any.trans hk (fun k _ e => (HF.out k).2 (.inl e)))
          clear hb hk hf
          have c4 : w3.cell? ⟨r, 0, none⟩ = some (.slice (some ⟨g, 0, none⟩) x.files.length c) := Blk.cell H3.out.blk rfl
          obtain ⟨g', he, _, hcell, hfr⟩ := H3.out.row.cell HP.out
          injection he with he; injection he with he
          subst he
          obtain ⟨TL, hTL⟩ : ∃ t, bs (f.bytes.take f.sure) = t := ⟨_, rfl⟩
          obtain ⟨TW, hTW⟩ : ∃ t, bs (f.bytes.drop f.sure) = t := ⟨_, rfl⟩
          have hsum : TL ++ TW = bs f.bytes := by rw [← hTL, ← hTW, bs_append, List.take_append_drop]
          have hno : ¬ 9223372036854775807 < TL.size + TW.size := by
            have h1 : (TL ++ TW).size = TL.size + TW.size := ByteArray.size_append
            rw [hsum, bs_size] at h1
            have := (HOK.out.at HFI.out).1.2
            omega
          have c5 : w3.cell? ⟨g, i * 4 + 1, none⟩ = some (.string TL) := by rw [← hTL]; exact hcell 1 _ rfl
          have c6 : w3.cell? ⟨g, i * 4 + 2, none⟩ = some (.string TW) := by rw [← hTW]; exact hcell 2 _ rfl
          have c7 : w3.cell? ⟨g, i * 4 + 3, none⟩ = some (.bool f.old) := hcell 3 _ rfl
          have f5 := hfr (i * 4 + 1)
          have f6 := hfr (i * 4 + 2)
          have f7 := hfr (i * 4 + 3)
          have hne : r ≠ g := by
            rintro rfl
            exact H3.out.ne HRB.out
          have HS := Lib.hid hsum
          clear hsum hTL hTW hcell hfr
          go_wp2_with fail
          refine Reg.wp_region_plan [⟨0, false, []⟩, ⟨1, false, []⟩, ⟨2, false, []⟩, ⟨3, false, []⟩, ⟨4, false, []⟩, ⟨5, false, []⟩, ⟨6, false, []⟩, ⟨7, false, []⟩, ⟨8, false, []⟩, ⟨9, false, []⟩, ⟨10, false, []⟩, ⟨11, false, []⟩, ⟨12, false, []⟩, ⟨13, false, []⟩, ⟨14, false, []⟩, ⟨15, false, []⟩, ⟨16, false, []⟩, ⟨17, false, []⟩, ⟨18, false, []⟩, ⟨19, true, []⟩] rfl (by kernel_rfl) ?_
          repeat (first | (refine Reg.look rfl rfl rfl (by go_simp; rfl) rfl ?_; go_simp) | (refine Reg.skip rfl rfl rfl ?_; go_simp))
          refine Reg.act rfl ?_
          go_wp2_with fail
          refine ⟨Reg.anew_nil, ?_⟩
          (refine Reg.done ?_; simp only [Exit.then])
          go_wp2_with fail
          go_ret
          rw [HZ3.out, HS.out]
          have hset : x.files.set i (n, syncF f) = ins n (syncF f) x.files := by
            rw [← HI.out]; exact (ins_over _ HOK.out.rising HFI.out).symm
          have h9 := RIn.sync H3.out HP.out (by
            show OkD { stepped x with files := x.files.set i (n, syncF f) }
            rw [hset]
            exact H3.out.ok.put n _ HN80.out (syncF_ok (HOK.out.at HFI.out).1))
          rw [show (stepped x).files.set i (n, syncF f) = ins n (syncF f) x.files from hset] at h9
          refine ⟨rfl, F, ⟨_, h9.keptNo ((Kp.refl _ _).drew), HF.out⟩, ?_, fun k hk => .inl hk⟩
          have hg : F g := (HF.out g).2 (.inr HRB.out)
          exact (((HK3.out.setCell (p := ⟨g, i * 4 + 1, none⟩) (fun _ => hg) _).setCell (p := ⟨g, i * 4 + 2, none⟩) (fun _ => hg) _).setCell (p := ⟨g, i * 4 + 3, none⟩) (fun _ => hg) _).drew
end Go.Proofs.Ytflodiljgphkdaa
