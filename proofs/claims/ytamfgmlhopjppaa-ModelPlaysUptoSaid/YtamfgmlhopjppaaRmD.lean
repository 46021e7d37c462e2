/-
  The document's model: Path.
-/
import Derived.Test.YtamfgmlhopjppaaGL
import Derived.Test.YtamfgmlhopjppaaGG
import Derived.Test.YtamfgmlhopjppaaRegT
import Derived.Test.YtamfgmlhopjppaaGE
import Derived.Deep.DeepCutAuto
namespace Go.Proofs.Ytamfgmlhopjppaa
open Go.RowKit Go.ChangeShapes Go.WideShapes Go.ChangeAt

/-- what stands ahead of each line is there -/
def ClosedM (M : MV) : Prop := ∀ p l, mget p M.lines = some l → ∃ L, pathM M (l.an, l.ae) = some L
theorem pathM_some {M : MV} (hok : OkM M) {p : Int × Int} {l : LineL} {L : List OpL} (hp : p ≠ (0, 0)) (h : mget p M.lines = some l) (hL : pathM M (l.an, l.ae) = some L) : pathM M p = some (L ++ [l.op]) := by
  unfold pathM at hL ⊢
  rw [pathL_some hok hp h]
  simp only at hL
  cases hq : pathL M.lines l.an.toNat (l.an, l.ae) with
  | none => rw [hq] at hL; cases hL
  | some r =>
    rw [hq] at hL
    simp only [Option.map_some, Option.some.injEq] at hL ⊢
    rw [← hL, List.reverse_cons]
set_option maxRecDepth 100000 in
set_option maxHeartbeats 16000000 in
theorem r_path26 (r : Nat) (M : MV) (R : RV) (F : Nat → Prop) (hs : SameL M R) (hok : OkM M) (hcl : ClosedM M) (hnum : ∀ p l, mget p M.lines = some l → l.op.nums) (hrl : R.lines.length ≤ 1000000) : ∀ (n : Nat) (p : Int × Int) (w : World), p.1.toNat < n → RMAt w r R F →
    Calls Try.prog 17 #[.pointer (some ⟨r, 0, none⟩), spotV p] w fun e w' => PathP w w' (pathM M p) e ∧ Kp No w w' := by
  intro n
  induction n with
  | zero => intro p w h; omega
  | succ n ih =>
    intro p w hpn hM
    obtain ⟨wa, hwa⟩ : ∃ v, w.alloc (.cells #[.int .i64 p.1, .int .i64 p.2] 37) = v := ⟨_, rfl⟩
    obtain ⟨sp, hsp⟩ : ∃ v, w.heap.size = v := ⟨_, rfl⟩
    have hka : Kp No w wa := by rw [← hwa]; exact (Kp.refl _ _).alloc _
    have hba : Blk wa sp 37 [.int .i64 p.1, .int .i64 p.2] := by rw [← hwa, ← hsp]; exact Blk.new w _ _
    have s0 : wa.cell? ⟨sp, 0, none⟩ = some _ := Blk.cell hba rfl
    have s1 : wa.cell? ⟨sp, 1, none⟩ = some _ := Blk.cell hba rfl
    have HKA := Lib.hid hka
    have HMA := Lib.hid (hM.keptNo hka)
    obtain ⟨Z, hZ⟩ : ∃ Z, pathM M p = Z := ⟨_, rfl⟩
    rw [hZ]
    by_cases h0 : p = (0, 0)
    · subst h0
      have hZ2 : Z = some [] := by rw [← hZ]; unfold pathM; rw [pathL_zero]; rfl
      subst hZ2
      unfold spotV
      clear hka hba hM hZ hpn ih hs hok hcl hrl hnum
      go_enter Try.func17, Try.ntmps17
      go_wp2_with fail
      exact bodyPost_ret (results_tmp2 rfl _ _ _) rfl ⟨⟨none, 0, rfl, Rp.none_ _ _ _⟩, HKA.out⟩
    have hfi := r_find26 p r R F wa HMA.out hrl
    rw [← hs p] at hfi
    obtain ⟨X, hX⟩ : ∃ X, mget p M.lines = X := ⟨_, rfl⟩
    rw [hX] at hfi
    have HFI := Lib.hid hfi
    have HNE := Lib.hid h0
    unfold lineV at HFI
    unfold spotV at HFI ⊢
    have HZ := Lib.hid hZ
    have HX := Lib.hid hX
    have HIH := Lib.hid ih
    have HPN := Lib.hid hpn
    clear hka hba hM hZ hX ih hfi h0 hpn
    go_enter Try.func17, Try.ntmps17
    go_upto_region 1 with fail
    clear hwa hsp
    go_cut [12] (fun bv wx => bv = .bool false ∧ wx = wa)
    case first =>
      by_cases h1 : p.1 = 0
      · have hb1 : (p.1 == 0) = true := beq_iff_eq.2 h1
        have hb2 : (p.2 == 0) = false := beq_eq_false_iff_ne.2 (fun h2 => HNE.out (Prod.ext h1 h2))
        clear h1
        go_wp2_with fail
        go_meet
        exact ⟨rfl, rfl⟩
      · have hb1 : (p.1 == 0) = false := beq_eq_false_iff_ne.2 h1
        clear h1
        go_wp2_with fail
        go_meet
        exact ⟨rfl, rfl⟩
    case rest =>
      obtain ⟨rfl, rfl⟩ := hcut
      obtain ⟨wa, rfl⟩ : ∃ v, v = wc := ⟨_, rfl⟩
      go_wp2_with fail
      refine HFI.out.mono ?_
      rintro e w5 ⟨A5, c5, rfl, hr5, hk5⟩
      clear s0 s1 HFI
      cases X with
      | none =>
        have hZn : Z = none := by rw [← HZ.out]; unfold pathM; rw [pathL_none HNE.out HX.out]; rfl
        subst hZn
        have HK5 := Lib.hid (HKA.out.trans' hk5)
        unfold zeroLine zeroO
        clear hr5 hk5
        go_wp2_with fail
        exact bodyPost_ret (results_tmp2 rfl _ _ _) rfl ⟨by unfold PathP; rfl, HK5.out.alloc _⟩
      | some l =>
        obtain ⟨L, hL⟩ := hcl p l HX.out
        have hZs : Z = some (L ++ [l.op]) := by rw [← HZ.out]; exact pathM_some hok HNE.out HX.out hL
        have hah := hok.ahead p l HX.out
        have hlw := hok.low p l HX.out
        have hih := fun w' (hk : Kp No wa w') => HIH.out (l.an, l.ae) w' (by have := HPN.out; simp only; omega) (HMA.out.keptNo hk)
        rw [hL] at hih
        have HLB : Hid (L.length ≤ 1000000 ∧ (∀ o ∈ L, o.hashes.length ≤ 1000000) ∧ l.op.hashes.length ≤ 1000000) := Lib.hid (by
          have h1 := pathD_mem hok (l.an, l.ae)
          have h2 : pathD M (l.an, l.ae) = L := by unfold pathD; rw [hL]; rfl
          rw [h2] at h1
          refine ⟨h1.2, fun o ho => ?_, hok.hashes p l HX.out⟩
          obtain ⟨q, x, hq, rfl⟩ := h1.1 o ho
          exact hok.hashes q x hq)
        have HNU : Hid l.op.nums := Lib.hid (hnum p l HX.out)
        subst hZs
        have HIH2 := Lib.hid hih
        have HR5 := Lib.hid hr5
        have HK5 := Lib.hid hk5
        unfold spotV at HIH2
        clear hih hah hlw hL hr5 hk5 HIH HZ HX HNE HPN
        obtain ⟨⟨on, oe, okd, os, oc, oq, onm, osz, ohs⟩, an, ae⟩ := l
        simp only [Option.getD_some, Option.isSome_some] at HR5 HIH2 HLB HNU ⊢
        go_upto_region 4 with fail
        obtain ⟨z, hz⟩ : ∃ v, w5.heap.size = v := ⟨_, rfl⟩
        obtain ⟨w6, hw6⟩ : ∃ v, w5.alloc (.cells #[.int .i64 on, .int .i64 oe, .int .i64 okd, .int .i64 os, .int .i64 oc, .int .i64 oq, .string onm, .int .i64 osz, .slice A5 ohs.length c5, .int .i64 an, .int .i64 ae] 76) = v := ⟨_, rfl⟩
        have hk6 : Kp No w5 w6 := by rw [← hw6]; exact (Kp.refl _ _).alloc _
        have hbz : Blk w6 z 76 [.int .i64 on, .int .i64 oe, .int .i64 okd, .int .i64 os, .int .i64 oc, .int .i64 oq, .string onm, .int .i64 osz, .slice A5 ohs.length c5, .int .i64 an, .int .i64 ae] := by rw [← hw6, ← hz]; exact Blk.new w5 _ _
        try rw [hw6]
        try rw [hz]
        have z9 : w6.cell? ⟨z, 9, none⟩ = some _ := Blk.cell hbz rfl
        have z10 : w6.cell? ⟨z, 10, none⟩ = some _ := Blk.cell hbz rfl
        have HK6 := Lib.hid (HK5.out.trans' hk6)
        have HR6 := Lib.hid (Rp.str.slice.keptNo HR5.out hk6)
        have HB6 := Lib.hid hbz
        clear hk6 hbz hw6 hz HR5 HK5
        go_wp2_with fail
        refine (HIH2.out w6 HK6.out).mono ?_
        rintro e w7 ⟨⟨A7, c7, rfl, hr7⟩, hk7⟩
        have HBZ := Lib.hid (HB6.out.kept hk7 (fun z => z))
        have HR7 := Lib.hid (Rp.str.slice.keptNo HR6.out hk7)
        have HL7 := Lib.hid hr7
        have HK7 := Lib.hid (HKA.out.trans' (HK6.out.trans' hk7))
        clear hr7 hk7 z9 z10 HB6 HR6 HIH2
        go_upto_region 7 with fail
        obtain ⟨wd, hwd⟩ : ∃ v, w7.drew = v := ⟨_, rfl⟩
        have HKD : Hid (Kp No w7 wd) := Lib.hid (by rw [← hwd]; exact (Kp.refl _ _).drew)
        have HOL := Lib.hid (fun w' (hk : Kp No w7 w') => r_ownops L A7 c7 w' _ (Rp.opl.slice.keptNo HL7.out hk) HLB.out.1 HLB.out.2.1)
        have HOS := Lib.hid (fun w' g (h : Rp.opl.slice.R w' (fun _ => True) [.slice (some ⟨g, 0, none⟩) 1 1] [⟨on, oe, okd, os, oc, oq, onm, osz, ohs⟩]) => r_ownops [⟨on, oe, okd, os, oc, oq, onm, osz, ohs⟩] (some ⟨g, 0, none⟩) 1 w' _ h (by simp) (fun o ho => by rw [List.mem_singleton.1 ho]; exact HLB.out.2.2))
        have HLT := Lib.hid (fun w' (hk : Kp No w7 w') => opl_lit w' ⟨on, oe, okd, os, oc, oq, onm, osz, ohs⟩ (.slice A5 ohs.length c5) (fun _ => True) trivial HNU.out (Rp.str.slice.more (Rp.str.slice.keptNo HR7.out hk) (fun _ _ => trivial)))
        simp only [List.length_singleton] at HOS
        unfold OpL.cells at HLT
        simp only at HLT
        have z0 : wd.cell? ⟨z, 0, none⟩ = some _ := Blk.cell (HBZ.out.kept HKD.out (fun z => z)) rfl
        have z1 : wd.cell? ⟨z, 1, none⟩ = some _ := Blk.cell (HBZ.out.kept HKD.out (fun z => z)) rfl
        have z2 : wd.cell? ⟨z, 2, none⟩ = some _ := Blk.cell (HBZ.out.kept HKD.out (fun z => z)) rfl
        have z3 : wd.cell? ⟨z, 3, none⟩ = some _ := Blk.cell (HBZ.out.kept HKD.out (fun z => z)) rfl
        have z4 : wd.cell? ⟨z, 4, none⟩ = some _ := Blk.cell (HBZ.out.kept HKD.out (fun z => z)) rfl
        have z5 : wd.cell? ⟨z, 5, none⟩ = some _ := Blk.cell (HBZ.out.kept HKD.out (fun z => z)) rfl
        have z6 : wd.cell? ⟨z, 6, none⟩ = some _ := Blk.cell (HBZ.out.kept HKD.out (fun z => z)) rfl
        have z7 : wd.cell? ⟨z, 7, none⟩ = some _ := Blk.cell (HBZ.out.kept HKD.out (fun z => z)) rfl
        have z8 : wd.cell? ⟨z, 8, none⟩ = some _ := Blk.cell (HBZ.out.kept HKD.out (fun z => z)) rfl
        refine Reg.wp_region_tree (.look 0 (.look 2 (.look 3 (.two 1 [2, 3] (.one 4 [] (.one 5 [] (.one 6 [] (.look 7 (.look 8 (.done)))))) 4 [] (.one 1 [] (.one 5 [] (.one 6 [] (.look 7 (.look 8 (.done))))))))))  [1, 4, 5, 6] rfl (by kernel_rfl) ?_
        rw [hwd]
        clear hwd
        repeat (first | (refine Reg.lookT rfl rfl rfl (by go_simp; rfl) rfl ?_; go_simp))
        refine Reg.twoT rfl rfl ?_ ?_
        · skip
          go_wp2_with fail
          refine (HOL.out wd HKD.out).mono ?_
          rintro e w8 ⟨A8, c8, rfl, hown8, hk8⟩
          have HK8 := Lib.hid (HKD.out.trans' hk8)
          have HO8 := Lib.hid hown8
          have HKD8 := Lib.hid hk8
          clear hown8 hk8
          clear z0 z1 z2 z3 z4 z5 z6 z7 z8
          have z0 : w8.cell? ⟨z, 0, none⟩ = some _ := Blk.cell (HBZ.out.kept HK8.out (fun z => z)) rfl
          have z1 : w8.cell? ⟨z, 1, none⟩ = some _ := Blk.cell (HBZ.out.kept HK8.out (fun z => z)) rfl
          have z2 : w8.cell? ⟨z, 2, none⟩ = some _ := Blk.cell (HBZ.out.kept HK8.out (fun z => z)) rfl
          have z3 : w8.cell? ⟨z, 3, none⟩ = some _ := Blk.cell (HBZ.out.kept HK8.out (fun z => z)) rfl
          have z4 : w8.cell? ⟨z, 4, none⟩ = some _ := Blk.cell (HBZ.out.kept HK8.out (fun z => z)) rfl
          have z5 : w8.cell? ⟨z, 5, none⟩ = some _ := Blk.cell (HBZ.out.kept HK8.out (fun z => z)) rfl
          have z6 : w8.cell? ⟨z, 6, none⟩ = some _ := Blk.cell (HBZ.out.kept HK8.out (fun z => z)) rfl
          have z7 : w8.cell? ⟨z, 7, none⟩ = some _ := Blk.cell (HBZ.out.kept HK8.out (fun z => z)) rfl
          have z8 : w8.cell? ⟨z, 8, none⟩ = some _ := Blk.cell (HBZ.out.kept HK8.out (fun z => z)) rfl
          go_wp2_with fail
          (refine ⟨?anew, ?_⟩; case anew => ((repeat (refine Reg.anew_cons rfl rfl (fun _ => by go_simp) ?_)); exact Reg.anew_nil))
          repeat (first | (refine Reg.lookT rfl rfl rfl (by go_simp; rfl) rfl ?_; go_simp))
          refine Reg.oneT rfl ?_
          obtain ⟨g9, hg9⟩ : ∃ v, w8.heap.size = v := ⟨_, rfl⟩
          have hlt9 : Rp.opl.slice.R (w8.alloc (.cells #[.int .i64 on, .int .i64 oe, .int .i64 okd, .int .i64 os, .int .i64 oc, .int .i64 oq, .string onm, .int .i64 osz, .slice A5 ohs.length c5] 58)) (fun _ => True) [.slice (some ⟨w8.heap.size, 0, none⟩) 1 1] [⟨on, oe, okd, os, oc, oq, onm, osz, ohs⟩] := HLT.out w8 HK8.out
          obtain ⟨w9, hw9⟩ : ∃ v, w8.alloc (.cells #[.int .i64 on, .int .i64 oe, .int .i64 okd, .int .i64 os, .int .i64 oc, .int .i64 oq, .string onm, .int .i64 osz, .slice A5 ohs.length c5] 58) = v := ⟨_, rfl⟩
          have hk9 : Kp No w8 w9 := by rw [← hw9]; exact (Kp.refl _ _).alloc _
          rw [hw9, hg9] at hlt9
          have HOP := Lib.hid (HOS.out w9 g9 hlt9)
          have HK9 := Lib.hid hk9
          clear hlt9 hk9 HOS HLT HOL
          clear z0 z1 z2 z3 z4 z5 z6 z7 z8
          go_wp2_with fail
          clear hw9 hg9
          refine ⟨Reg.anew_nil, ?_⟩
          refine Reg.oneT rfl ?_
          go_wp2_with fail
          refine HOP.out.mono ?_
          rintro e w10 ⟨A10, c10, rfl, hown10, hk10⟩
          have hb8 : ∀ k, (Value.slice A8 L.length c8).ownBlock = some k → k < w8.heap.size := fun k hk => (HO8.out.lt k hk).2
          have HO1 : Hid (Own Rp.opl w10 (fun k => w.heap.size ≤ k ∧ k < w10.heap.size ∧ (Value.slice A8 L.length c8).ownBlock ≠ some k) w.heap.size 58 (.slice A8 L.length c8) L) := Lib.hid ((HO8.out.keptNo (HK9.out.trans' hk10)).mono (HK7.out.trans' HKD.out).size (fun k hk => ⟨Nat.le_trans (HK7.out.trans' HKD.out).size hk.1, by have := hk.2.1; have := (HK9.out.trans' hk10).size; omega, hk.2.2⟩))
          have HO2 : Hid (Rp.opl.slice.R w10 (fun k => w.heap.size ≤ k ∧ k < w10.heap.size ∧ (Value.slice A8 L.length c8).ownBlock ≠ some k) [.slice A10 1 c10] [⟨on, oe, okd, os, oc, oq, onm, osz, ohs⟩]) := Lib.hid (Rp.opl.slice.more (Rp.opl.slice.bnd hown10.readFrom) (fun k hk => by
            have h1 : w9.heap.size ≤ k := by
              rcases hk.1 with h | h
              · exact h.1
              · exact h
            have h2 := (HK7.out.trans' HK8.out).size
            have h3 := HK9.out.size
            exact ⟨by omega, hk.2, fun h => by have := hb8 k h; omega⟩))
          have HK10 := Lib.hid ((HK7.out.trans' HK8.out).trans' (HK9.out.trans' hk10))
          clear hown10 hk10 hb8 HO8 HOP
          go_wp2_with fail
          refine ⟨Reg.anew_nil, ?_⟩
          refine Reg.oneT rfl ?_
          refine wpList_append_rp (E := Rp.opl) rfl _ (.tmp 29) (.tmp 33) 32 rfl w.heap.size 58 96 el_op (fun k => w.heap.size ≤ k ∧ k < w10.heap.size ∧ (Value.slice A8 L.length c8).ownBlock ≠ some k) (.slice A8 L.length c8) L rfl HO1.out A10 c10 (fun k => w.heap.size ≤ k ∧ k < w10.heap.size ∧ (Value.slice A8 L.length c8).ownBlock ≠ some k) [⟨on, oe, okd, os, oc, oq, onm, osz, ohs⟩] rfl HO2.out Rp.opl_one ?hcap ?hby HK10.out.size (fun _ h => h) (fun k hk h => h.2.2 hk) ?_
          case hcap => have := HLB.out.1; simp [maxLen]; omega
          case hby => have := HLB.out.1; simp; omega
          intro v11 w11 hown hgr hbl
          have HK11 : Hid (Kp No w w11) := Lib.hid (HK10.out.grown hgr (fun k hk hlt => by have := (HO1.out.lt k hk).1; omega))
          have hr11 := Rp.opl.slice.more hown.readFrom (fun k hk => (by rcases hk with hk | hk; exact hk.1; exact hk : w.heap.size ≤ k))
          obtain ⟨A11, c11, hsh⟩ := hown.shape
          obtain ⟨n11, hn11⟩ : ∃ v, (L ++ [(⟨on, oe, okd, os, oc, oq, onm, osz, ohs⟩ : OpL)]).length = v := ⟨_, rfl⟩
          rw [hn11] at hsh
          subst hsh
          have HR11 := Lib.hid hr11
          have HN11 := Lib.hid hn11
          clear hn11 hr11
          clear hown hgr hbl HO1 HO2
          go_wp2_with fail
          refine ⟨Reg.anew_nil, ?_⟩
          repeat (first | (refine Reg.lookT rfl rfl rfl (by go_simp; rfl) rfl ?_; go_simp))
          refine Reg.doneT ?_
          simp only [Exit.then]
          go_wp2_with fail
          exact bodyPost_ret (results_tmp2 rfl _ _ _) rfl ⟨⟨A11, c11, by rw [HN11.out]; rfl, by rw [HN11.out]; exact HR11.out⟩, HK11.out⟩
        · skip
          obtain ⟨g9, hg9⟩ : ∃ v, wd.heap.size = v := ⟨_, rfl⟩
          have hlt9 : Rp.opl.slice.R (wd.alloc (.cells #[.int .i64 on, .int .i64 oe, .int .i64 okd, .int .i64 os, .int .i64 oc, .int .i64 oq, .string onm, .int .i64 osz, .slice A5 ohs.length c5] 58)) (fun _ => True) [.slice (some ⟨wd.heap.size, 0, none⟩) 1 1] [⟨on, oe, okd, os, oc, oq, onm, osz, ohs⟩] := HLT.out wd HKD.out
          obtain ⟨w8, hw8⟩ : ∃ v, wd.alloc (.cells #[.int .i64 on, .int .i64 oe, .int .i64 okd, .int .i64 os, .int .i64 oc, .int .i64 oq, .string onm, .int .i64 osz, .slice A5 ohs.length c5] 58) = v := ⟨_, rfl⟩
          have hk8 : Kp No wd w8 := by rw [← hw8]; exact (Kp.refl _ _).alloc _
          rw [hw8, hg9] at hlt9
          have HL9 := Lib.hid hlt9
          have HK8 := Lib.hid (HKD.out.trans' hk8)
          clear hlt9 hk8 HLT
          clear z0 z1 z2 z3 z4 z5 z6 z7 z8
          go_wp2_with fail
          clear hw8 hg9
          refine ⟨Reg.anew_nil, ?_⟩
          refine Reg.oneT rfl ?_
          go_wp2_with fail
          refine (HOL.out w8 HK8.out).mono ?_
          rintro e w9 ⟨A8, c8, rfl, hown8, hk9⟩
          have HO8 := Lib.hid hown8
          have HK9 := Lib.hid hk9
          have HOP := Lib.hid (HOS.out w9 g9 (Rp.opl.slice.keptNo HL9.out hk9))
          clear hown8 hk9 HOS HL9 HOL
          go_wp2_with fail
          refine ⟨Reg.anew_nil, ?_⟩
          refine Reg.oneT rfl ?_
          go_wp2_with fail
          refine HOP.out.mono ?_
          rintro e w10 ⟨A10, c10, rfl, hown10, hk10⟩
          have hb8 : ∀ k, (Value.slice A8 L.length c8).ownBlock = some k → k < w9.heap.size := fun k hk => (HO8.out.lt k hk).2
          have hw8 : w.heap.size ≤ w8.heap.size := (HK7.out.trans' HK8.out).size
          have HO1 : Hid (Own Rp.opl w10 (fun k => w.heap.size ≤ k ∧ k < w10.heap.size ∧ (Value.slice A8 L.length c8).ownBlock ≠ some k) w.heap.size 58 (.slice A8 L.length c8) L) := Lib.hid ((HO8.out.keptNo hk10).mono hw8 (fun k hk => ⟨Nat.le_trans hw8 hk.1, by have := hk.2.1; have := hk10.size; omega, hk.2.2⟩))
          have HO2 : Hid (Rp.opl.slice.R w10 (fun k => w.heap.size ≤ k ∧ k < w10.heap.size ∧ (Value.slice A8 L.length c8).ownBlock ≠ some k) [.slice A10 1 c10] [⟨on, oe, okd, os, oc, oq, onm, osz, ohs⟩]) := Lib.hid (Rp.opl.slice.more (Rp.opl.slice.bnd hown10.readFrom) (fun k hk => by
            have h1 : w9.heap.size ≤ k := by
              rcases hk.1 with h | h
              · exact h.1
              · exact h
            have h3 := HK9.out.size
            exact ⟨by omega, hk.2, fun h => by have := hb8 k h; omega⟩))
          have HK10 := Lib.hid ((HK7.out.trans' HK8.out).trans' (HK9.out.trans' hk10))
          clear hown10 hk10 hb8 hw8 HO8 HOP
          go_wp2_with fail
          refine ⟨Reg.anew_nil, ?_⟩
          refine Reg.oneT rfl ?_
          refine wpList_append_rp (E := Rp.opl) rfl _ (.tmp 29) (.tmp 33) 32 rfl w.heap.size 58 96 el_op (fun k => w.heap.size ≤ k ∧ k < w10.heap.size ∧ (Value.slice A8 L.length c8).ownBlock ≠ some k) (.slice A8 L.length c8) L rfl HO1.out A10 c10 (fun k => w.heap.size ≤ k ∧ k < w10.heap.size ∧ (Value.slice A8 L.length c8).ownBlock ≠ some k) [⟨on, oe, okd, os, oc, oq, onm, osz, ohs⟩] rfl HO2.out Rp.opl_one ?hcap ?hby HK10.out.size (fun _ h => h) (fun k hk h => h.2.2 hk) ?_
          case hcap => have := HLB.out.1; simp [maxLen]; omega
          case hby => have := HLB.out.1; simp; omega
          intro v11 w11 hown hgr hbl
          have HK11 : Hid (Kp No w w11) := Lib.hid (HK10.out.grown hgr (fun k hk hlt => by have := (HO1.out.lt k hk).1; omega))
          have hr11 := Rp.opl.slice.more hown.readFrom (fun k hk => (by rcases hk with hk | hk; exact hk.1; exact hk : w.heap.size ≤ k))
          obtain ⟨A11, c11, hsh⟩ := hown.shape
          obtain ⟨n11, hn11⟩ : ∃ v, (L ++ [(⟨on, oe, okd, os, oc, oq, onm, osz, ohs⟩ : OpL)]).length = v := ⟨_, rfl⟩
          rw [hn11] at hsh
          subst hsh
          have HR11 := Lib.hid hr11
          have HN11 := Lib.hid hn11
          clear hn11 hr11
          clear hown hgr hbl HO1 HO2
          go_wp2_with fail
          refine ⟨Reg.anew_nil, ?_⟩
          repeat (first | (refine Reg.lookT rfl rfl rfl (by go_simp; rfl) rfl ?_; go_simp))
          refine Reg.doneT ?_
          simp only [Exit.then]
          go_wp2_with fail
          exact bodyPost_ret (results_tmp2 rfl _ _ _) rfl ⟨⟨A11, c11, by rw [HN11.out]; rfl, by rw [HN11.out]; exact HR11.out⟩, HK11.out⟩
end Go.Proofs.Ytamfgmlhopjppaa
