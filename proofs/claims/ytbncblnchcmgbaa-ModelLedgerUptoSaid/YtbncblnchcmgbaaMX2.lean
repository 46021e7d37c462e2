/-
  Put together: Mod5, Mod6, Mod7, Mod8, Mod9, ModC, ModD, ModE, OrdL, ModF, ModH.
-/
import Derived.Test.YtbncblnchcmgbaaMX1
import Derived.Test.YtbncblnchcmgbaaDeed6
import Derived.OwnWalk
import Derived.Test.YtbncblnchcmgbaaDeedL
import Derived.Test.YtbncblnchcmgbaaRegT
namespace Go.Proofs.Ytbncblnchcmgbaa
section
open Go.RowKit Go.ChangeShapes Go.WideShapes Go.ChangeAt

def pathL (ls : List ((Int × Int) × LineL)) : Nat → Int × Int → Option (List OpL)
  | 0, p => if p = (0, 0) then some [] else none
  | f + 1, p => if p = (0, 0) then some [] else match mget p ls with
    | none => none
    | some l => (pathL ls f (l.an, l.ae)).map (l.op :: ·)
def pathM (M : MV) (p : Int × Int) : Option (List OpL) := (pathL M.lines p.1.toNat p).map List.reverse
theorem pathL_none {ls : List ((Int × Int) × LineL)} {f : Nat} {p : Int × Int} (hp : p ≠ (0, 0)) (h : mget p ls = none) : pathL ls f p = none := by
  cases f with
  | zero => unfold pathL; rw [if_neg hp]
  | succ f => unfold pathL; rw [if_neg hp, h]
theorem pathL_zero (ls : List ((Int × Int) × LineL)) (f : Nat) : pathL ls f (0, 0) = some [] := by
  cases f with
  | zero => unfold pathL; rw [if_pos rfl]
  | succ f => unfold pathL; rw [if_pos rfl]
theorem pathL_some {M : MV} (hok : OkM M) {p : Int × Int} {l : LineL} (hp : p ≠ (0, 0)) (h : mget p M.lines = some l) : pathL M.lines p.1.toNat p = (pathL M.lines (l.an).toNat (l.an, l.ae)).map (l.op :: ·) := by
  have h1 := hok.low p l h
  have h2 := hok.ahead p l h
  obtain ⟨f, hf⟩ : ∃ f, p.1.toNat = f + 1 := ⟨p.1.toNat - 1, by omega⟩
  rw [hf]
  conv => lhs; unfold pathL
  rw [if_neg hp, h]
  have : l.an.toNat = f := by omega
  rw [this]
def NewY (w0 w : World) (v : Value) (y : Nat) : Nat → Prop := fun k => NewX w0 w v k ∧ k ≠ y
/-- what Path tells -/
def PathP (w w' : World) (R : Option (List OpL)) (e : Ending) : Prop := match R with
  | none => e = .returned (.tuple #[.slice none 0 0, .bool false])
  | some L => ∃ A c, e = .returned (.tuple #[.slice A L.length c, .bool true]) ∧ Rp.opl.slice.R w' (fun k => w.heap.size ≤ k) [.slice A L.length c] L
set_option maxRecDepth 100000 in
theorem m_path_nil (p : Int × Int) (w : World) : Calls Try.prog 20 #[.pointer none, spotV p] w fun e w' => e = .returned (.tuple #[.slice none 0 0, .bool false]) ∧ Kp No w w' := by
  unfold spotV
  have HK : Hid (Kp No w (w.alloc (.cells #[.int .i64 p.1, .int .i64 p.2] 54))) := Lib.hid ((Kp.refl _ _).alloc _)
  go_enter Try.func20, Try.ntmps20
  go_wp2_with fail
  exact bodyPost_ret (results_tmp2 rfl _ _ _) rfl ⟨rfl, HK.out⟩
set_option maxRecDepth 100000 in
set_option maxHeartbeats 8000000 in
theorem m_path (p : Int × Int) (m : Nat) (M : MV) (F : Nat → Prop) (w : World) (hM : MAt w m M F) (hok : OkM M) :
    Calls Try.prog 20 #[.pointer (some ⟨m, 0, none⟩), spotV p] w fun e w' => PathP w w' (pathM M p) e ∧ Kp No w w' := by
  obtain ⟨R, hR⟩ : ∃ R, pathM M p = R := ⟨_, rfl⟩
  rw [hR]
  have HM := Lib.hid hM
  have HOK := Lib.hid hok
  obtain ⟨at_, hat⟩ : ∃ v, w.heap.size = v := ⟨_, rfl⟩
  obtain ⟨wa, hwa⟩ : ∃ v, w.alloc (.cells #[.int .i64 p.1, .int .i64 p.2] 54) = v := ⟨_, rfl⟩
  have HKA : Hid (Kp No w wa) := Lib.hid (by rw [← hwa]; exact (Kp.refl _ _).alloc _)
  have HBA : Hid (Blk wa at_ 54 [.int .i64 p.1, .int .i64 p.2]) := Lib.hid (by rw [← hwa, ← hat]; exact Blk.new w _ _)
  have HAT := Lib.hid hat
  have HRP : Hid (R = (pathL M.lines p.1.toNat p).map (fun r => ([] ++ r).reverse)) := Lib.hid (by rw [← hR]; rfl)
  unfold spotV
  clear hM hok hR
  go_enter Try.func20, Try.ntmps20
  go_wp2_with fail
  clear hwa hat
  go_loopw [6] (fun ov wr => ∃ (acc : List OpL) (q : Int × Int), Hid (Blk wr at_ 54 [.int .i64 q.1, .int .i64 q.2]) ∧ Hid (Own Rp.opl wr (NewY w wr ov at_) w.heap.size 38 ov acc) ∧ Hid (ov.ownBlock ≠ some at_) ∧ Hid (Kp No w wr) ∧ Hid (R = (pathL M.lines q.1.toNat q).map (fun r => (acc ++ r).reverse)) ∧ Hid (acc = [] ∨ acc.length + q.1.toNat ≤ 1000000))
    (fun _ wr => match wr.cell? ⟨at_, 0, none⟩ with | some (.int _ x) => x.toNat | _ => 0)
  case atStart => exact ⟨[], p, HBA, Lib.hid (Own.nil _ _ _ _ _), Lib.hid (by simp [Value.ownBlock]), HKA, HRP, Lib.hid (.inl rfl)⟩
  case round =>
    clear HBA HKA HRP
    obtain ⟨acc, ⟨q1, q2⟩, HB, HO, HOA, HKR, HRQ, HLEN⟩ := hrel
    obtain ⟨Av, cv, rfl⟩ := HO.out.shape
    have s0 : wr.cell? ⟨at_, 0, none⟩ = some _ := Blk.cell HB.out rfl
    have s1 : wr.cell? ⟨at_, 1, none⟩ = some _ := Blk.cell HB.out rfl
    have HS0 : Hid (wr.cell? ⟨at_, 0, none⟩ = some (.int .i64 q1)) := Lib.hid s0
    by_cases hq : (q1, q2) = ((0 : Int), (0 : Int))
    · simp only [Prod.mk.injEq] at hq
      obtain ⟨rfl, rfl⟩ := hq
      have hR : R = some acc.reverse := by rw [HRQ.out, pathL_zero, Option.map_some, List.append_nil]
      subst hR
      have HREV : Hid (Calls Try.prog 53 #[.slice Av acc.length cv] wr fun e w' => e = .returned (.tuple #[]) ∧ Rp.opl.slice.R w' (fun k => w.heap.size ≤ k) [.slice Av acc.length cv] acc.reverse ∧ Kp No w w') := Lib.hid (by
        rcases Nat.eq_zero_or_pos acc.length with h0 | h0
        · have hnil : acc = [] := List.eq_nil_of_length_eq_zero h0
          subst hnil
          refine (m_rev0 cv Av wr).mono ?_
          rintro e w' ⟨rfl, rfl⟩
          exact ⟨rfl, Rp.opl.slice.more HO.out.readFrom (fun k hk => by
            rcases hk with hk | hk
            · exact hk.1.1
            · exact hk), HKR.out⟩
        · obtain ⟨g, c, hv, hnc, hm, hob, hrow⟩ := RowG.of_own HO.out h0
          injection hv with hA _ hc
          subst hA hc
          have hgb := HO.out.lt g hob
          refine (m_rev acc acc.length g cv _ wr (by
            rcases HLEN.out with h | h
            · rw [h]; simp
            · omega) hrow (fun h => h.1.2.2 hob) h0).mono ?_
          rintro e w' ⟨rfl, hr, hk⟩
          exact ⟨rfl, Rp.opl.slice.more (hr.read hnc hm) (fun k hk => by
            rcases hk with hk | hk
            · exact hk.1.1
            · rw [hk]; exact hgb.1), HKR.out.trans hk (fun k hk e => by omega)⟩)
      clear HO HOA HB HRQ HLEN
      go_wp2_with fail
      refine HREV.out.mono ?_
      rintro e w2 ⟨rfl, hr2, hk2⟩
      have HR2 := Lib.hid hr2
      have HK2 := Lib.hid hk2
      clear hr2 hk2 HREV s0 s1
      go_wp2_with fail
      refine bodyPost_ret (results_tmp2 rfl _ _ _) rfl ⟨?_, HK2.out⟩
      unfold PathP
      exact ⟨Av, cv, by rw [List.length_reverse]; rfl, by rw [List.length_reverse]; exact HR2.out⟩
    · go_upto_region 4 with fail
      go_cut [14] (fun bv wx => bv = .bool true ∧ wx = wr)
      case first =>
        by_cases h1 : q1 = 0
        · have h2 : (q2 == 0) = false := beq_eq_false_iff_ne.2 (fun h2 => hq (by rw [h1, h2]))
          subst h1
          go_wp2_with fail
          go_meet
          exact ⟨rfl, rfl⟩
        · have h2 : (q1 == 0) = false := beq_eq_false_iff_ne.2 h1
          go_wp2_with fail
          go_meet
          exact ⟨rfl, rfl⟩
      case rest =>
        obtain ⟨rfl, rfl⟩ := hcut
        obtain ⟨wr, rfl⟩ : ∃ v, v = wc := ⟨_, rfl⟩
        obtain ⟨bb, av, S, hin, hft⟩ := HM.out.keptNo HKR.out
        obtain ⟨was, A6, n6, c6, B, hlook, hB⟩ := hin.look (q1, q2)
        unfold spotV at hlook
        have HBM := Lib.hid hin.blk
        have HNU : Hid (∀ a, mget (q1, q2) M.lines = some a → a.nums) := Lib.hid (fun a ha => hin.nums ha)
        have HBQ := Lib.hid hB
        have HLOOK := Lib.hid hlook
        have HMA : Hid (m ≠ at_) := Lib.hid (by
          have h1 := HM.out.lt (k := m) (by obtain ⟨_, _, _, _, h⟩ := HM.out; exact (h m).2 (.inl rfl))
          have h2 := HAT.out
          omega)
        clear hin hft hB hlook s0 s1
        go_upto_region 5 with fail
        obtain ⟨wd, hwd⟩ : ∃ v, wr.drew = v := ⟨_, rfl⟩
        have HKD : Hid (Kp No wr wd) := Lib.hid (by rw [← hwd]; exact (Kp.refl _ _).drew)
        have k0 : wd.cell? ⟨m, 0, none⟩ = some _ := Blk.cell (HBM.out.kept HKD.out (fun z => z)) rfl
        have s0 : wd.cell? ⟨at_, 0, none⟩ = some _ := Blk.cell (HB.out.kept HKD.out (fun z => z)) rfl
        have s1 : wd.cell? ⟨at_, 1, none⟩ = some _ := Blk.cell (HB.out.kept HKD.out (fun z => z)) rfl
        have hl := HLOOK.out wd HKD.out
        refine Reg.wp_region_plan [⟨0, false, []⟩, ⟨1, false, []⟩, ⟨2, false, []⟩, ⟨3, false, []⟩, ⟨4, false, []⟩, ⟨5, false, []⟩, ⟨6, false, []⟩, ⟨7, false, []⟩, ⟨8, false, []⟩, ⟨9, true, [1, 2, 3, 4, 5, 7, 8]⟩, ⟨10, true, [8]⟩, ⟨11, false, []⟩] rfl (by kernel_rfl) ?_
        rw [hwd]
        clear hwd
        repeat (first | (refine Reg.look rfl rfl rfl (by go_simp; rfl) rfl ?_; go_simp) | (refine Reg.skip rfl rfl rfl ?_; go_simp))
        obtain ⟨z, hz⟩ : ∃ v, wd.heap.size = v := ⟨_, rfl⟩
        obtain ⟨w5, hw5⟩ : ∃ v, wd.alloc (.cells #[.int .i64 0, .int .i64 0, .int .i64 0, .int .i64 0, .int .i64 0, .int .i64 0, .string { data := #[] }, .int .i64 0, .slice none 0 0, .int .i64 0, .int .i64 0] 118) = v := ⟨_, rfl⟩
        have HBZ : Hid (Blk w5 z 118 [.int .i64 0, .int .i64 0, .int .i64 0, .int .i64 0, .int .i64 0, .int .i64 0, .string { data := #[] }, .int .i64 0, .slice none 0 0, .int .i64 0, .int .i64 0]) := Lib.hid (by rw [← hw5, ← hz]; exact Blk.new wd _ _)
        have HK5 : Hid (Kp No wr w5) := Lib.hid (by rw [← hw5]; exact HKD.out.alloc _)
        have HZW : Hid (wr.heap.size ≤ z) := Lib.hid (by rw [← hz]; exact HKD.out.size)
        refine Reg.act rfl ?_
        go_wp2_with fail
        clear k0 s0 s1 hl hw5 hz
        have k0 : w5.cell? ⟨m, 0, none⟩ = some _ := Blk.cell (HBM.out.kept HK5.out (fun z => z)) rfl
        have s0 : w5.cell? ⟨at_, 0, none⟩ = some _ := Blk.cell (HB.out.kept HK5.out (fun z => z)) rfl
        have s1 : w5.cell? ⟨at_, 1, none⟩ = some _ := Blk.cell (HB.out.kept HK5.out (fun z => z)) rfl
        have hl := HLOOK.out w5 HK5.out
        (refine ⟨?anew, ?_⟩; case anew => ((repeat (refine Reg.anew_cons rfl rfl (fun _ => by go_simp) ?_)); exact Reg.anew_nil))
        repeat (first | (refine Reg.look rfl rfl rfl (by go_simp; rfl) rfl ?_; go_simp) | (refine Reg.skip rfl rfl rfl ?_; go_simp))
        have hst := run_store_line w5 z 0 was A6 n6 c6 _ _ _ _ _ _ _ _ _ _ _ (Blk.cell HBZ.out (i := 0) rfl) (Blk.cell HBZ.out (i := 1) rfl) (Blk.cell HBZ.out (i := 2) rfl) (Blk.cell HBZ.out (i := 3) rfl) (Blk.cell HBZ.out (i := 4) rfl) (Blk.cell HBZ.out (i := 5) rfl) (Blk.cell HBZ.out (i := 6) rfl) (Blk.cell HBZ.out (i := 7) rfl) (Blk.cell HBZ.out (i := 8) rfl) (Blk.cell HBZ.out (i := 9) rfl) (Blk.cell HBZ.out (i := 10) rfl) (Blk.fr HBZ.out)
        obtain ⟨w6, hw6⟩ : ∃ v, wset w5 z 0 (was.cells (.slice A6 n6 c6)) = v := ⟨_, rfl⟩
        have hb6 := wset_blk (vs := was.cells (.slice A6 n6 c6)) (o := 0) HBZ.out
        have hk6 : Kp (· = z) w5 (wset w5 z 0 (was.cells (.slice A6 n6 c6))) := wset_kp
        rw [hw6] at hst hb6 hk6
        have HB6 : Hid (Blk w6 z 118 [.int .i64 was.op.n, .int .i64 was.op.epoch, .int .i64 was.op.kind, .int .i64 was.op.site, .int .i64 was.op.client, .int .i64 was.op.seq, .string was.op.name, .int .i64 was.op.size, .slice A6 n6 c6, .int .i64 was.an, .int .i64 was.ae]) := Lib.hid hb6
        have HK6 : Hid (Kp No wr w6) := Lib.hid (HK5.out.trans hk6 (fun k hk e => by have := HZW.out; omega))
        have HST := Lib.hid hst
        clear hst hb6 hk6 hw6 k0 s0 s1 hl
        refine Reg.act rfl ?_
        go_wp2_with (refine wpl_store (by first | rfl | go_simp) 118 _ _ rfl _ _ (by go_simp) (by go_simp) HST.out ?_; go_simp)
        (refine ⟨?anew, ?_⟩; case anew => ((repeat (refine Reg.anew_cons rfl rfl (fun _ => by go_simp) ?_)); exact Reg.anew_nil))
        repeat (first | (refine Reg.look rfl rfl rfl (by go_simp; rfl) rfl ?_; go_simp) | (refine Reg.skip rfl rfl rfl ?_; go_simp))
        (refine Reg.done ?_; simp only [Exit.then])
        cases B
        case false =>
          have hR : R = none := by
            rcases HBQ.out with h | ⟨_, h⟩
            · cases h.1
            · rw [HRQ.out, pathL_none hq h]; rfl
          subst hR
          go_wp2_with fail
          exact bodyPost_ret (results_tmp2 rfl _ _ _) rfl ⟨by unfold PathP; rfl, HKR.out.trans' HK6.out⟩
        case true =>
          obtain ⟨hg5, rfl, hr6⟩ : mget (q1, q2) M.lines = some was ∧ n6 = was.op.hashes.length ∧ Rp.str.slice.R wr S [.slice A6 n6 c6] was.op.hashes := by
            rcases HBQ.out with h | h
            · exact h.2
            · cases h.1
          have hlow := HOK.out.low _ _ hg5
          have hah := HOK.out.ahead _ _ hg5
          have hhs := HOK.out.hashes _ _ hg5
          simp only at hlow hah
          have hnu := HNU.out _ hg5
          have HRQ2 : Hid (R = (pathL M.lines was.an.toNat (was.an, was.ae)).map (fun r => ((acc ++ [was.op]) ++ r).reverse)) := Lib.hid (by
            have h1 := HRQ.out
            have h2 := pathL_some HOK.out hq hg5
            simp only at h1 h2
            rw [h1, h2, Option.map_map]
            congr 1
            funext r
            simp)
          have HLEN2 : Hid ((acc ++ [was.op]) = [] ∨ (acc ++ [was.op]).length + was.an.toNat ≤ 1000000) := Lib.hid (.inr (by
            rw [List.length_append, List.length_singleton]
            have h1 := HLEN.out
            try simp only at h1
            rcases h1 with h1 | h1
            · rw [h1]; simp; omega
            · omega))
          have hacc : acc.length ≤ 1000000 := by
            have h1 := HLEN.out
            try simp only at h1
            rcases h1 with h1 | h1
            · rw [h1]; simp
            · omega
          have HMEA : Hid (was.an.toNat < q1.toNat) := Lib.hid (by omega)
          obtain ⟨o, ho⟩ : ∃ v, was.op = v := ⟨_, rfl⟩
          obtain ⟨oan, hoan⟩ : ∃ v, was.an = v := ⟨_, rfl⟩
          obtain ⟨oae, hoae⟩ : ∃ v, was.ae = v := ⟨_, rfl⟩
          rw [ho] at hhs hr6 HB6
          rw [hoan, hoae] at HB6
          rw [ho, hoan] at HLEN2
          rw [ho, hoan, hoae] at HRQ2
          rw [hoan] at HMEA
          have hno : o.nums := by rw [← ho]; exact hnu.1
          have HNO := Lib.hid hno
          have HHS : Hid (o.hashes.length ≤ 1000000) := Lib.hid hhs
          have hld := run_load_lop HB6.out
          unfold opV at hld
          have HLD := Lib.hid hld
          obtain ⟨y, hy⟩ : ∃ v, w6.heap.size = v := ⟨_, rfl⟩
          obtain ⟨w7, hw7⟩ : ∃ v, w6.alloc (.cells #[.int .i64 o.n, .int .i64 o.epoch, .int .i64 o.kind, .int .i64 o.site, .int .i64 o.client, .int .i64 o.seq, .string o.name, .int .i64 o.size, .slice A6 o.hashes.length c6] 38) = v := ⟨_, rfl⟩
          have hk7 : Kp No w6 w7 := by rw [← hw7]; exact (Kp.refl _ _).alloc _
          have hb7 : Blk w7 y 38 [.int .i64 o.n, .int .i64 o.epoch, .int .i64 o.kind, .int .i64 o.site, .int .i64 o.client, .int .i64 o.seq, .string o.name, .int .i64 o.size, .slice A6 o.hashes.length c6] := by rw [← hw7, ← hy]; exact Blk.new w6 _ _
          have y8 : w7.cell? ⟨y, 8, none⟩ = some _ := Blk.cell hb7 rfl
          have HB7 := Lib.hid hb7
          have HK7 := Lib.hid hk7
          have HYW : Hid (w6.heap.size ≤ y) := Lib.hid (Nat.le_of_eq hy)
          have hcl := c_cloneS o.hashes A6 c6 w7 S (Rp.str.slice.keptNo hr6 (HK6.out.trans' hk7)) hhs
          have HCL := Lib.hid hcl
          clear hg5 hr6 hlow hah hnu ho hoan hoae hno hhs hld hk7 hb7 hcl HRQ HLEN HBQ HNU HLOOK HBZ
          go_wp2_with (refine wpl_load (by first | rfl | go_simp) 38 _ rfl _ _ rfl HLD.out ?_; go_simp)
          clear hw7 hy HLD
          refine HCL.out.mono ?_
          rintro e w8 ⟨A7, c7, rfl, hown, hk8⟩
          have hb8 := HB7.out.kept hk8 (fun z => z)
          have y8 : w8.cell? ⟨y, 8, none⟩ = some _ := Blk.cell hb8 rfl
          have g8 := Blk.fr hb8 8
          obtain ⟨w9, hw9⟩ : ∃ v, w8.setCell ⟨y, 8, none⟩ (.slice A7 o.hashes.length c7) = v := ⟨_, rfl⟩
          have hb9 : Blk w9 y 38 [.int .i64 o.n, .int .i64 o.epoch, .int .i64 o.kind, .int .i64 o.site, .int .i64 o.client, .int .i64 o.seq, .string o.name, .int .i64 o.size, .slice A7 o.hashes.length c7] := by rw [← hw9]; exact Blk.set hb8 8 (.slice A7 o.hashes.length c7)
          have hk9 : Kp (· = y) w8 w9 := by rw [← hw9]; exact (Kp.refl (· = y) w8).setCell (p := ⟨y, 8, none⟩) (fun _ => rfl) _
          have hyw7 : y < w7.heap.size := Blk.lt HB7.out
          have hsz6 := HK6.out.size
          have hyw := HYW.out
          have hzl : z < w6.heap.size := Blk.lt HB6.out
          have hal : at_ < wr.heap.size := Blk.lt HB.out
          have hwr := HKR.out.size
          have hsz8 := hk8.size
          have hsz9 := hk9.size
          obtain ⟨g1, hg1⟩ : ∃ v, w9.heap.size = v := ⟨_, rfl⟩
          obtain ⟨w10, hw10⟩ : ∃ v, w9.alloc (.cells #[.int .i64 o.n, .int .i64 o.epoch, .int .i64 o.kind, .int .i64 o.site, .int .i64 o.client, .int .i64 o.seq, .string o.name, .int .i64 o.size, .slice A7 o.hashes.length c7] 38) = v := ⟨_, rfl⟩
          have hk10 : Kp No w9 w10 := by rw [← hw10]; exact (Kp.refl _ _).alloc _
          have hsz10 : w10.heap.size = g1 + 1 := by rw [← hw10, ← hg1]; simp
          have hovl : ∀ k, (Value.slice Av acc.length cv).ownBlock = some k → k < wr.heap.size := fun k hk => (HO.out.lt k hk).2
          have hr9 : Rp.str.slice.R w9 (fun k => w7.heap.size ≤ k ∧ k < w8.heap.size) [.slice A7 o.hashes.length c7] o.hashes := by
            have h := (hown.str_any (fun k => w7.heap.size ≤ k ∧ k < w8.heap.size)).read (fun k hk => hown.lt k hk)
            exact Rp.str.slice.kept h hk9 (fun k hk _ e => by omega)
          have hlit := run_lit_opl w9 o (.slice A7 o.hashes.length c7)
          have hsrc := opl_lit w9 o (.slice A7 o.hashes.length c7) (fun k => w.heap.size ≤ k ∧ k ≤ g1 ∧ k ≠ at_ ∧ (Value.slice Av acc.length cv).ownBlock ≠ some k) (by
            rw [hg1]
            exact ⟨by omega, Nat.le_refl _, by omega, fun h => by have := hovl _ h; omega⟩) HNO.out (Rp.str.slice.more hr9 (fun k hk => ⟨by omega, by omega, by omega, fun h => by have := hovl _ h; omega⟩))
          unfold OpL.cells at hlit hsrc
          rw [hg1] at hlit hsrc
          rw [hw10] at hlit hsrc
          have hown10 : Own Rp.opl w10 (fun k => w.heap.size ≤ k ∧ k ≤ g1 ∧ k ≠ at_ ∧ (Value.slice Av acc.length cv).ownBlock ≠ some k) w.heap.size 38 (.slice Av acc.length cv) acc :=
            ((((HO.out.keptNo (HK6.out.trans' HK7.out)).keptNo hk8).kept hk9 (fun k hk _ e => by have := hk.1.2.1; omega) (fun k hv e => by have := hovl k hv; omega)).keptNo hk10).mono (Nat.le_refl _) (fun k hk => ⟨hk.1.1, by have := hk.1.2.1; omega, hk.2, hk.1.2.2⟩)
          have hld9 := run_load_op (o := o) hb9
          unfold opV at hld9
          have HLD9 := Lib.hid hld9
          have HLIT := Lib.hid hlit
          have HSRC := Lib.hid hsrc
          have HOW := Lib.hid hown10
          have hk610 : Kp (· = y) w6 w10 := ((HK7.out.trans' hk8).any.trans hk9 (fun _ _ h => h)).trans hk10.any (fun _ _ h => h)
          have HKX : Hid (Kp No w w10) := Lib.hid ((HKR.out.trans' HK6.out).trans hk610 (fun k hk e => by omega))
          have HBX : Hid (Blk w10 at_ 54 [.int .i64 q1, .int .i64 q2]) := Lib.hid ((HB.out.kept HK6.out (fun z => z)).kept hk610 (by omega))
          have HZX := Lib.hid (HB6.out.kept hk610 (by omega))
          have HLE : Hid (z < g1 ∧ at_ < g1 ∧ wr.heap.size ≤ z ∧ w10.heap.size = g1 + 1 ∧ w.heap.size ≤ g1) := Lib.hid ⟨by omega, by omega, HZW.out, hsz10, by omega⟩
          have HOV := Lib.hid hovl
          clear hown hk8 hb8 hb9 hk9 hk10 hr9 hlit hsrc hown10 hld9 hk610 HO HB HB6 HK6 HKR HK7 HB7 HCL HZW
          have hdone : acc.length + 1 ≤ 1000001 := by omega
          go_wp2_with (first
            | (refine wpl_load (by first | rfl | go_simp) 38 _ rfl _ _ rfl HLD9.out ?_; go_simp)
            | (at_builtin
               refine wpList_append_rp (E := Rp.opl) rfl _ (.tmp 34) (.tmp 36) 42 rfl w.heap.size 38 96 el_op (fun k => w.heap.size ≤ k ∧ k ≤ g1 ∧ k ≠ at_ ∧ (Value.slice Av acc.length cv).ownBlock ≠ some k) (.slice Av acc.length cv) acc rfl HOW.out (some ⟨g1, 0, none⟩) 1 (fun k => w.heap.size ≤ k ∧ k ≤ g1 ∧ k ≠ at_ ∧ (Value.slice Av acc.length cv).ownBlock ≠ some k) [o] rfl HSRC.out Rp.opl_one ?hcap ?hby ?hbase (fun _ h => h) (fun k hk h => h.2.2.2 hk) ?_
               case hcap => simp [maxLen]; omega
               case hby => simp; omega
               case hbase => exact HKX.out.size
               intro v9 w11 hown9 hg9 hbl9
               have hk11 : Kp (fun k => (Value.slice Av acc.length cv).ownBlock = some k) w10 w11 := (Kp.refl _ _).grown hg9 (fun g hg _ => hg)
               have hle := HLE.out
               have hs11 := hk11.size
               have HZ11 := Lib.hid (HZX.out.kept hk11 (fun h => by have := HOV.out _ h; omega))
               have HB11 := Lib.hid (HBX.out.kept hk11 HOA.out)
               have HK11 : Hid (Kp No w w11) := Lib.hid (HKX.out.trans hk11 (fun k hk h => by have := (HOW.out.lt k h).1; omega))
               have HV9 : Hid (v9.ownBlock ≠ some at_) := Lib.hid (fun h => by
                 rcases hbl9 with h2 | h2
                 · exact HOA.out (h2 ▸ h)
                 · rw [h2] at h; injection h with h; omega)
               have HO11 : Hid (Own Rp.opl w11 (NewY w w11 v9 at_) w.heap.size 38 v9 (acc ++ [o])) := Lib.hid (hown9.mono (Nat.le_refl _) (fun k hk => ⟨⟨hk.1, by omega, fun h => by
                 rcases hbl9 with h2 | h2
                 · exact hk.2.2.2 (h2 ▸ h)
                 · rw [h2] at h; injection h with h; omega⟩, hk.2.2.1⟩))
               have z9 : w11.cell? ⟨z, 9, none⟩ = some _ := Blk.cell HZ11.out rfl
               have z10 : w11.cell? ⟨z, 10, none⟩ = some _ := Blk.cell HZ11.out rfl
               have s0 : w11.cell? ⟨at_, 0, none⟩ = some _ := Blk.cell HB11.out rfl
               have s1 : w11.cell? ⟨at_, 1, none⟩ = some _ := Blk.cell HB11.out rfl
               have f0 := Blk.fr HB11.out 0
               have f1 := Blk.fr HB11.out 1
               clear hown9 hg9 hbl9 hk11 hle hs11 hw10 hg1 hw9 y8 g8))
          have hk12 : Kp (· = at_) w11 ((w11.setCell ⟨at_, 0, none⟩ (.int .i64 oan)).setCell ⟨at_, 1, none⟩ (.int .i64 oae)) := ((Kp.refl (· = at_) w11).setCell (p := ⟨at_, 0, none⟩) (fun _ => rfl) _).setCell (p := ⟨at_, 1, none⟩) (fun _ => rfl) _
          have hsz12 : ((w11.setCell ⟨at_, 0, none⟩ (.int .i64 oan)).setCell ⟨at_, 1, none⟩ (.int .i64 oae)).heap.size = w11.heap.size := by simp
          have hb12 : Blk ((w11.setCell ⟨at_, 0, none⟩ (.int .i64 oan)).setCell ⟨at_, 1, none⟩ (.int .i64 oae)) at_ 54 [.int .i64 oan, .int .i64 oae] := Blk.set (Blk.set HB11.out 0 (.int .i64 oan)) 1 (.int .i64 oae)
          have ho12 : Own Rp.opl ((w11.setCell ⟨at_, 0, none⟩ (.int .i64 oan)).setCell ⟨at_, 1, none⟩ (.int .i64 oae)) (NewY w ((w11.setCell ⟨at_, 0, none⟩ (.int .i64 oan)).setCell ⟨at_, 1, none⟩ (.int .i64 oae)) v9 at_) w.heap.size 38 v9 (acc ++ [o]) :=
            (HO11.out.kept hk12 (fun k hk _ e => hk.2 e) (fun k hv e => HV9.out (e ▸ hv))).mono (Nat.le_refl _) (fun k hk => ⟨⟨hk.1.1, by rw [hsz12]; exact hk.1.2.1, hk.1.2.2⟩, hk.2⟩)
          go_roundw
          case rel => exact ⟨acc ++ [o], (oan, oae), Lib.hid hb12, Lib.hid ho12, HV9, Lib.hid (HK11.out.trans hk12 (fun k hk e => by have := HAT.out; omega)), HRQ2, HLEN2⟩
          case measure =>
            have m1 := Blk.cell hb12 (i := 0) rfl
            have m0 := HS0.out
            simp only [m1, m0]
            exact HMEA.out
end

section
open Go.RowKit Go.ChangeShapes Go.WideShapes Go.ChangeAt

def liveG (m : List (ByteArray × OpL)) (o : OpL) : List (ByteArray × OpL) := if o.kind = 1 then mput o.name o m else if o.kind = 2 then mdel o.name m else m
def liveL1 (L : List OpL) : List (ByteArray × OpL) := L.foldl liveG []
theorem liveL1_snoc (L : List OpL) (o : OpL) : liveL1 (L ++ [o]) = liveG (liveL1 L) o := by simp [liveL1, List.foldl_append]
def pathD (M : MV) (p : Int × Int) : List OpL := (pathM M p).getD []
theorem key_text : KeyOk Try.prog 9 (κ := ByteArray) Value.string := KeyOk.string Try.underlying9
theorem pathP_all {w w' : World} {M : MV} {p : Int × Int} {e : Ending} (h : PathP w w' (pathM M p) e) : ∃ A c, e = .returned (.tuple #[.slice A (pathD M p).length c, .bool (pathM M p).isSome]) ∧ Rp.opl.slice.R w' (fun k => w.heap.size ≤ k) [.slice A (pathD M p).length c] (pathD M p) := by
  unfold pathD
  cases hp : pathM M p with
  | none =>
    rw [hp] at h
    exact ⟨none, 0, h, Rp.none_ _ _ _⟩
  | some L =>
    rw [hp] at h
    obtain ⟨A, c, h1, h2⟩ := h
    exact ⟨A, c, h1, h2⟩
set_option maxRecDepth 100000 in
set_option maxHeartbeats 8000000 in
theorem m_live (p : Int × Int) (m : Nat) (M : MV) (F : Nat → Prop) (w : World) (hM : MAt w m M F) (hok : OkM M) :
    Calls Try.prog 58 #[.pointer (some ⟨m, 0, none⟩), spotV p] w fun e w' => ∃ b, e = .returned (.tuple #[.map (some b), .bool (pathM M p).isSome]) ∧ w.heap.size ≤ b ∧ MapRp Rp.opl w' (fun k => w.heap.size ≤ k ∧ k ≠ b) b Value.string (liveL1 (pathD M p)) ∧ Kp No w w' := by
  obtain ⟨B, hB⟩ : ∃ B, (pathM M p).isSome = B := ⟨_, rfl⟩
  obtain ⟨L, hL⟩ : ∃ L, pathD M p = L := ⟨_, rfl⟩
  obtain ⟨wa, hwa⟩ : ∃ v, w.alloc (.cells #[.int .i64 p.1, .int .i64 p.2] 54) = v := ⟨_, rfl⟩
  have hka : Kp No w wa := by rw [← hwa]; exact (Kp.refl _ _).alloc _
  obtain ⟨at_, hat⟩ : ∃ v, w.heap.size = v := ⟨_, rfl⟩
  have hba : Blk wa at_ 54 [.int .i64 p.1, .int .i64 p.2] := by rw [← hwa, ← hat]; exact Blk.new w _ _
  have s0 : wa.cell? ⟨at_, 0, none⟩ = some _ := Blk.cell hba rfl
  have s1 : wa.cell? ⟨at_, 1, none⟩ = some _ := Blk.cell hba rfl
  have hpa := (m_path p m M F wa (hM.keptNo hka) hok).mono (fun e w' h => (⟨pathP_all h.1, h.2⟩ : (∃ A c, e = .returned (.tuple #[.slice A (pathD M p).length c, .bool (pathM M p).isSome]) ∧ Rp.opl.slice.R w' (fun k => wa.heap.size ≤ k) [.slice A (pathD M p).length c] (pathD M p)) ∧ Kp No wa w'))
  have hpl : L.length = L.length := rfl
  rw [hB, hL] at hpa ⊢
  unfold spotV at hpa ⊢
  have HPA := Lib.hid hpa
  have HKA := Lib.hid hka
  clear hpa hka hba hM hok hpl
  go_enter Try.func58, Try.ntmps58
  go_wp2_with fail
  clear hwa s0 s1 hat
  refine HPA.out.mono ?_
  rintro e w1 ⟨⟨A, c, rfl, hr⟩, hk1⟩
  obtain ⟨b, hb⟩ : ∃ v, w1.heap.size = v := ⟨_, rfl⟩
  obtain ⟨w2, hw2⟩ : ∃ v, w1.alloc (.map #[] 0) = v := ⟨_, rfl⟩
  have hk2 : Kp No w1 w2 := by rw [← hw2]; exact (Kp.refl _ _).alloc _
  have HMP : Hid (MapRp Rp.opl w2 (fun k => w.heap.size ≤ k ∧ k ≠ b) b Value.string (liveL1 (L.take 0))) := Lib.hid (by rw [← hw2, ← hb]; exact MapRp.made w1 _)
  have HR : Hid (Rp.opl.slice.R w2 (fun k => w.heap.size ≤ k ∧ k < b) [.slice A L.length c] L) := Lib.hid (Rp.opl.slice.keptNo (Rp.opl.slice.more (Rp.opl.slice.bnd hr) (fun k hk => ⟨Nat.le_trans HKA.out.size hk.1, by rw [← hb]; exact hk.2⟩)) hk2)
  have HK2 := Lib.hid ((HKA.out.trans' hk1).trans' hk2)
  have HBW : Hid (w.heap.size ≤ b) := Lib.hid (by rw [← hb]; exact (HKA.out.trans' hk1).size)
  have hll : (L.length : Int) ≤ 9223372036854775807 := by
    obtain ⟨_, _, he, h1, h2, _⟩ := hr
    simp only [List.cons.injEq, Value.slice.injEq, and_true] at he
    unfold maxLen at h2
    omega
  have hmk : (Instr.makeMap 129 none).run Try.prog w1 = .ok (.map (some b)) w2 := by rw [← hw2, ← hb]; rfl
  clear hr hk1 hk2 HPA HKA hw2 hb
  go_wp2_with fail
  clear hmk
  go_loopw [20] (fun iv wr => ∃ i : Nat, i ≤ L.length ∧ iv = .int .i64 (i : Int) ∧ Hid (MapRp Rp.opl wr (fun k => w.heap.size ≤ k ∧ k ≠ b) b Value.string (liveL1 (L.take i))) ∧ Hid (Kp (· = b) w2 wr)) (fun iv _ => L.length - (intOf iv).toNat)
  case atStart => exact ⟨0, Nat.zero_le _, rfl, HMP, Lib.hid (Kp.refl _ _)⟩
  case round =>
    clear HMP
    obtain ⟨i, hi, rfl, HMP, HKR⟩ := hrel
    by_cases hlt : i < L.length
    · have hli : (i : Int) < (L.length : Int) := by omega
      obtain ⟨o, ho⟩ : ∃ o, L[i]? = some o := ⟨_, List.getElem?_eq_getElem hlt⟩
      have HTK : Hid (liveL1 (L.take (i + 1)) = liveG (liveL1 (L.take i)) o) := Lib.hid (by
        obtain ⟨e1, e2⟩ := List.getElem?_eq_some_iff.1 ho
        rw [List.take_succ_eq_append_getElem e1, e2, liveL1_snoc])
      have HRX := Lib.hid (Rp.opl.slice.kept HR.out HKR.out (fun k hk _ e => by have := hk.2; omega))
      obtain ⟨ad, A', c', rfl, _, hcell, hnum, hrd⟩ := Rp.at_opl HRX.out ho
      obtain ⟨z0, z1, z2, z3, z4, z5, z6, z7, z8⟩ := opl_cells hcell
      obtain ⟨y, hy⟩ : ∃ v, wr.heap.size = v := ⟨_, rfl⟩
      obtain ⟨w3, hw3⟩ : ∃ v, wr.alloc (.cells #[.int .i64 o.n, .int .i64 o.epoch, .int .i64 o.kind, .int .i64 o.site, .int .i64 o.client, .int .i64 o.seq, .string o.name, .int .i64 o.size, .slice A' o.hashes.length c'] 38) = v := ⟨_, rfl⟩
      have hk3 : Kp No wr w3 := by rw [← hw3]; exact (Kp.refl _ _).alloc _
      have hb3 : Blk w3 y 38 [.int .i64 o.n, .int .i64 o.epoch, .int .i64 o.kind, .int .i64 o.site, .int .i64 o.client, .int .i64 o.seq, .string o.name, .int .i64 o.size, .slice A' o.hashes.length c'] := by rw [← hw3, ← hy]; exact Blk.new wr _ _
      have y2 : w3.cell? ⟨y, 2, none⟩ = some _ := Blk.cell hb3 rfl
      have y6 : w3.cell? ⟨y, 6, none⟩ = some _ := Blk.cell hb3 rfl
      have hld := run_load_op (o := o) hb3
      unfold opV at hld
      have HLD := Lib.hid hld
      have HM3 := Lib.hid (HMP.out.keptNo hk3)
      have HK3 := Lib.hid hk3
      have HNB : Hid (¬ (w.heap.size ≤ b ∧ b ≠ b)) := Lib.hid (fun h => h.2 rfl)
      have HRO : Hid (Rp.opl.R w3 (fun k => w.heap.size ≤ k ∧ k ≠ b) (o.cells (.slice A' o.hashes.length c')) o) := Lib.hid ⟨_, rfl, hnum, Rp.str.slice.keptNo (Rp.str.slice.more hrd (fun k hk => ⟨hk.1, by have := hk.2; omega⟩)) hk3⟩
      clear ho hcell hnum hrd hk3 hb3 hld HMP HRX
      by_cases h1 : o.kind = 1
      · have hg : liveG (liveL1 (L.take i)) o = mput o.name o (liveL1 (L.take i)) := by unfold liveG; rw [if_pos h1]
        obtain ⟨w4, hrun, hm4, hk4⟩ := HM3.out.update (P := Try.prog) key_text Try.underlying129 HNB.out o.name HRO.out
        have hrun2 : (Instr.mapUpdate 129 (.map (some b)) (.string o.name) (.agg #[.int .i64 o.n, .int .i64 o.epoch, .int .i64 o.kind, .int .i64 o.site, .int .i64 o.client, .int .i64 o.seq, .string o.name, .int .i64 o.size, .slice A' o.hashes.length c'])).run Try.prog w3 = .ok () w4 := hrun
        have HRUN := Lib.hid hrun2
        have HM4 : Hid (MapRp Rp.opl w4 (fun k => w.heap.size ≤ k ∧ k ≠ b) b Value.string (liveL1 (L.take (i + 1)))) := Lib.hid (by rw [HTK.out, hg]; exact hm4)
        have HK4 : Hid (Kp (· = b) w2 w4) := Lib.hid ((HKR.out.trans HK3.out.any (fun _ _ h => h)).trans hk4 (fun _ _ h => h))
        have hkb : (o.kind == 1) = true := beq_iff_eq.2 h1
        clear hg hrun hrun2 hm4 hk4 HRO HM3 h1
        go_wp2_with (first | (refine wpl_load (by first | rfl | go_simp) 38 _ rfl _ _ rfl HLD.out ?_; go_simp) | (refine wpl_update (by first | rfl | go_simp) 129 _ _ _ rfl _ _ _ rfl rfl rfl HRUN.out ?_; go_simp))
        go_roundw
        case rel => exact ⟨i + 1, by omega, by go_num, HM4, HK4⟩
        case measure => simp [intOf]; omega
      · have hkb1 : (o.kind == 1) = false := beq_eq_false_iff_ne.2 h1
        by_cases h2 : o.kind = 2
        · have hg : liveG (liveL1 (L.take i)) o = mdel o.name (liveL1 (L.take i)) := by unfold liveG; rw [if_neg h1, if_pos h2]
          obtain ⟨w4, hrun, hm4, hk4⟩ := HM3.out.delete (P := Try.prog) key_text Try.underlying129 HNB.out o.name 9 0
          have hkb2 : (o.kind == 2) = true := beq_iff_eq.2 h2
          have HM4 : Hid (MapRp Rp.opl w4 (fun k => w.heap.size ≤ k ∧ k ≠ b) b Value.string (liveL1 (L.take (i + 1)))) := Lib.hid (by rw [HTK.out, hg]; exact hm4)
          have HK4 : Hid (Kp (· = b) w2 w4) := Lib.hid ((HKR.out.trans HK3.out.any (fun _ _ h => h)).trans hk4 (fun _ _ h => h))
          clear hg hm4 hk4 HRO HM3 h1 h2
          go_wp2_with fail
          try rw [hrun]
          try go_wp2_with fail
          go_roundw
          case rel => exact ⟨i + 1, by omega, by go_num, HM4, HK4⟩
          case measure => simp [intOf]; omega
        · have hg : liveG (liveL1 (L.take i)) o = liveL1 (L.take i) := by unfold liveG; rw [if_neg h1, if_neg h2]
          have hkb2 : (o.kind == 2) = false := beq_eq_false_iff_ne.2 h2
          have HM4 : Hid (MapRp Rp.opl w3 (fun k => w.heap.size ≤ k ∧ k ≠ b) b Value.string (liveL1 (L.take (i + 1)))) := Lib.hid (by rw [HTK.out, hg]; exact HM3.out)
          have HK4 : Hid (Kp (· = b) w2 w3) := Lib.hid (HKR.out.trans HK3.out.any (fun _ _ h => h))
          clear hg HRO HM3 h1 h2
          go_wp2_with fail
          go_roundw
          case rel => exact ⟨i + 1, by omega, by go_num, HM4, HK4⟩
          case measure => simp [intOf]; omega
    · obtain rfl : i = L.length := by omega
      have HMQ := Lib.hid HMP.out
      rw [List.take_length] at HMQ
      go_wp2_with fail
      exact bodyPost_ret (results_tmp2 rfl _ _ _) rfl ⟨b, rfl, HBW.out, HMQ.out, HK2.out.trans HKR.out (fun k hk e => by have := HBW.out; omega)⟩
end

section
open Go.RowKit Go.ChangeShapes Go.WideShapes Go.ChangeAt

theorem m_keys_Op (m : Nat) (w : World) : Calls Try.prog 61 #[.map (some m)] w fun e w' => e = .returned (.func (.func 80) #[] #[.pointer (some ⟨w.heap.size, 0, none⟩)]) ∧ w' = w.alloc (.cells #[.map (some m)] 129) :=
  callsIn_wide.1 (sh_keys_Op (some m) w)
theorem m_sorted_Op (m : Nat) (l : List (ByteArray × Value)) (w : World) (hM : MapOf w m Value.string l) (hs : ∀ p ∈ l, p.1.size ≤ maxLen) (hn : l.length ≤ 1000000) :
    Calls Try.prog 60 #[.func (.func 80) #[] #[.pointer (some ⟨w.heap.size, 0, none⟩)]] (w.alloc (.cells #[.map (some m)] 129)) fun e w' =>
      ∃ A c, e = .returned (.slice A (sortedN (l.map (·.1))).length c) ∧ Own Rp.str w' No (w.heap.size + 1) 9 (.slice A (sortedN (l.map (·.1))).length c) (sortedN (l.map (·.1))) ∧ Kp No w w' := by
  obtain ⟨D0, h1, h2, h3⟩ := hM.owns (P := Try.prog) 9 Try.underlying9 hs (by unfold maxLen; omega)
  refine (callsIn_wide.1 (sh_sorted_Op m l.length D0 _ w h1 (by rw [h3]; unfold maxLen; omega) (by rw [h3]; omega))).mono ?_
  rintro e w' ⟨v, ss, rfl, hp, hrow, _, hb⟩
  have hown := own_of_sorted (l := l.map (·.1)) hrow (by rw [List.map_map]; exact hp.trans h2) (fun s hs' => by obtain ⟨p, hp, rfl⟩ := List.mem_map.1 hs'; exact hs p hp)
  have e1 : (w.alloc (.cells #[.map (some m)] 129)).heap.size = w.heap.size + 1 := by simp
  rw [e1] at hown
  obtain ⟨A, c, rfl⟩ := hown.shape
  exact ⟨A, c, rfl, hown, ((Kp.refl No w).alloc _).transNo (Kp.ofBelow hb (Nat.le_refl _))⟩
theorem mput_len {κ α : Type} [DecidableEq κ] (k : κ) (v : α) : ∀ l : List (κ × α), (mput k v l).length ≤ l.length + 1
  | [] => by simp [mput]
  | (k', v') :: l => by
    unfold mput
    split
    · simp
    · have := mput_len k v l; simp only [List.length_cons]; omega
theorem mdel_len {κ α : Type} [DecidableEq κ] (k : κ) : ∀ l : List (κ × α), (mdel k l).length ≤ l.length
  | [] => by simp [mdel]
  | (k', v') :: l => by
    unfold mdel
    split
    · simp
    · have := mdel_len k l; simp only [List.length_cons]; omega
theorem liveG_mem {m : List (ByteArray × OpL)} {o : OpL} {k : ByteArray} (h : k ∈ (liveG m o).map (·.1)) : k = o.name ∨ k ∈ m.map (·.1) := by
  unfold liveG at h
  split at h
  · exact (mem_keys_mput _ _ _ _).1 h
  · split at h
    · exact .inr (mem_keys_mdel h)
    · exact .inr h
theorem live_fold : ∀ (L : List OpL) (m : List (ByteArray × OpL)), (∀ k ∈ (L.foldl liveG m).map (·.1), k ∈ m.map (·.1) ∨ ∃ o ∈ L, k = o.name) ∧ (L.foldl liveG m).length ≤ m.length + L.length
  | [], m => ⟨fun k hk => .inl hk, by simp⟩
  | o :: L, m => by
    obtain ⟨h1, h2⟩ := live_fold L (liveG m o)
    constructor
    · intro k hk
      rcases h1 k hk with h | ⟨o2, h, e⟩
      · rcases liveG_mem h with h | h
        · exact .inr ⟨o, List.mem_cons_self, h⟩
        · exact .inl h
      · exact .inr ⟨o2, List.mem_cons_of_mem _ h, e⟩
    · have : (liveG m o).length ≤ m.length + 1 := by
        unfold liveG
        split
        · exact mput_len _ _ _
        · split
          · have := mdel_len o.name m; omega
          · omega
      simp only [List.foldl_cons, List.length_cons]
      omega
theorem pathL_mem {ls : List ((Int × Int) × LineL)} : ∀ {f : Nat} {p : Int × Int} {r : List OpL}, pathL ls f p = some r → (∀ o ∈ r, ∃ q l, mget q ls = some l ∧ l.op = o) ∧ r.length ≤ f
  | 0, p, r, h => by
    unfold pathL at h
    split at h
    · injection h with h; subst h; exact ⟨fun o ho => (by simp at ho), Nat.le_refl _⟩
    · cases h
  | f + 1, p, r, h => by
    unfold pathL at h
    split at h
    · injection h with h; subst h; exact ⟨fun o ho => (by simp at ho), Nat.zero_le _⟩
    · split at h
      · cases h
      · rename_i l hl
        obtain ⟨r', hr, rfl⟩ := Option.map_eq_some_iff.1 h
        obtain ⟨h1, h2⟩ := pathL_mem hr
        refine ⟨fun o ho => ?_, by simp only [List.length_cons]; omega⟩
        rcases List.mem_cons.1 ho with rfl | ho
        · exact ⟨_, l, hl, rfl⟩
        · exact h1 o ho
theorem pathD_mem {M : MV} (hok : OkM M) (p : Int × Int) : (∀ o ∈ pathD M p, ∃ q l, mget q M.lines = some l ∧ l.op = o) ∧ (pathD M p).length ≤ 1000000 := by
  unfold pathD pathM
  cases h : pathL M.lines p.1.toNat p with
  | none => exact ⟨fun o ho => (by simp at ho), by simp⟩
  | some r =>
    obtain ⟨h1, h2⟩ := pathL_mem h
    refine ⟨fun o ho => h1 o (by simpa using ho), ?_⟩
    simp only [Option.map_some, Option.getD_some, List.length_reverse]
    cases r with
    | nil => simp
    | cons o r =>
      have hp : p ≠ (0, 0) := fun e => by rw [e, pathL_zero] at h; cases h
      cases hg : mget p M.lines with
      | none => rw [pathL_none hp hg] at h; cases h
      | some l => have := hok.low p l hg; omega
def namesM (M : MV) (p : Int × Int) : List ByteArray := sortedN ((liveL1 (pathD M p)).map (·.1))
set_option maxRecDepth 100000 in
set_option maxHeartbeats 4000000 in
theorem m_names (p : Int × Int) (m : Nat) (M : MV) (F : Nat → Prop) (w : World) (hM : MAt w m M F) (hok : OkM M) :
    Calls Try.prog 29 #[.pointer (some ⟨m, 0, none⟩), spotV p] w fun e w' => ∃ A c, e = .returned (.tuple #[.slice A (namesM M p).length c, .bool (pathM M p).isSome]) ∧ Own Rp.str w' No w.heap.size 9 (.slice A (namesM M p).length c) (namesM M p) ∧ Kp No w w' := by
  have hnum : ∀ o ∈ pathD M p, o.name.size ≤ maxLen := fun o ho => by
    obtain ⟨q, l, hq, rfl⟩ := (pathD_mem hok p).1 o ho
    obtain ⟨_, _, _, hin, _⟩ := hM
    exact (hin.nums hq).1.2.2.2.2.2.2.1
  have hlen := (pathD_mem hok p).2
  obtain ⟨hf1, hf2⟩ := live_fold (pathD M p) []
  obtain ⟨wa, hwa⟩ : ∃ v, w.alloc (.cells #[.int .i64 p.1, .int .i64 p.2] 54) = v := ⟨_, rfl⟩
  have hka : Kp No w wa := by rw [← hwa]; exact (Kp.refl _ _).alloc _
  obtain ⟨at_, hat⟩ : ∃ v, w.heap.size = v := ⟨_, rfl⟩
  have hba : Blk wa at_ 54 [.int .i64 p.1, .int .i64 p.2] := by rw [← hwa, ← hat]; exact Blk.new w _ _
  have s0 : wa.cell? ⟨at_, 0, none⟩ = some _ := Blk.cell hba rfl
  have s1 : wa.cell? ⟨at_, 1, none⟩ = some _ := Blk.cell hba rfl
  have hlv := m_live p m M F wa (hM.keptNo hka) hok
  obtain ⟨B, hB⟩ : ∃ B, (pathM M p).isSome = B := ⟨_, rfl⟩
  obtain ⟨V, hV⟩ : ∃ V, liveL1 (pathD M p) = V := ⟨_, rfl⟩
  have hsz : ∀ k ∈ V.map (·.1), k.size ≤ maxLen := fun k hk => by
    rw [← hV] at hk
    rcases hf1 k hk with h | ⟨o, ho, rfl⟩
    · simp at h
    · exact hnum o ho
  have hvl : V.length ≤ 1000000 := by
    rw [← hV]
    have h2 : (liveL1 (pathD M p)).length ≤ ([] : List (ByteArray × OpL)).length + (pathD M p).length := hf2
    simp only [List.length_nil] at h2
    omega
  unfold namesM
  rw [hV] at hlv ⊢
  rw [hB] at hlv ⊢
  obtain ⟨N, hN⟩ : ∃ N, sortedN (V.map (·.1)) = N := ⟨_, rfl⟩
  rw [hN]
  unfold spotV at hlv ⊢
  have HLV := Lib.hid hlv
  have HKA := Lib.hid hka
  have HSZ := Lib.hid hsz
  have HVL := Lib.hid hvl
  have HNE := Lib.hid hN
  clear hlv hka hba hM hok hnum hlen hf1 hf2 hsz hvl hV hB hN
  go_enter Try.func29, Try.ntmps29
  go_wp2_with fail
  clear hwa s0 s1 hat
  refine HLV.out.mono ?_
  rintro e w1 ⟨b, rfl, hbw, hmp, hk1⟩
  obtain ⟨lv, hm, hkey, _⟩ := hmp
  have HK1 := Lib.hid (HKA.out.trans' hk1)
  have hks := m_keys_Op b w1
  have hll : lv.length ≤ 1000000 := by
    have h1 := congrArg List.length hkey
    simp only [List.length_map] at h1
    have := HVL.out
    omega
  have hso := m_sorted_Op b lv w1 hm (fun q hq => HSZ.out q.1 (by rw [← hkey]; exact List.mem_map.2 ⟨q, hq, rfl⟩)) hll
  rw [hkey, HNE.out] at hso
  have HKS := Lib.hid hks
  have HSO := Lib.hid hso
  clear hbw hm hkey hk1 hks hll hso HLV HKA
  go_wp2_with fail
  refine HKS.out.mono ?_
  rintro e w2 ⟨rfl, rfl⟩
  go_wp2_with fail
  refine HSO.out.mono ?_
  rintro e w3 ⟨A, c, rfl, hown, hk3⟩
  have HOW := Lib.hid hown
  have HK3 := Lib.hid hk3
  clear hown hk3
  go_wp2_with fail
  exact bodyPost_ret (results_tmp2 rfl _ _ _) rfl ⟨A, c, rfl, HOW.out.mono (by have := HK1.out.size; omega) (fun _ x => x), HK1.out.trans' HK3.out⟩
end

section
open Go.RowKit Go.ChangeShapes Go.WideShapes Go.ChangeAt

def askV (a : AskL) : Value := .agg #[.int .i64 a.kind, .int .i64 a.client, .int .i64 a.seq, .string a.name, .string a.data, .int .i64 a.mode, .int .i64 a.lag]
set_option maxRecDepth 100000 in
theorem m_denied (b : Bool) (w : World) : Calls Try.prog 57 #[.bool b] w fun e w' => e = .returned (.int .i64 (if b = true then 0 else 200)) ∧ Kp No w w' := by
  cases b
  · go_enter Try.func57, Try.ntmps57
    go_wp2_with fail
    go_ret
    exact ⟨rfl, Kp.refl _ _⟩
  · go_enter Try.func57, Try.ntmps57
    go_wp2_with fail
    go_ret
    exact ⟨rfl, Kp.refl _ _⟩
set_option maxRecDepth 100000 in
theorem m_new (w : World) : Calls Try.prog 16 #[] w fun e w' => ∃ m F, e = .returned (.pointer (some ⟨m, 0, none⟩)) ∧ MAt w' m ⟨[], []⟩ F ∧ (∀ k, F k → w.heap.size ≤ k) ∧ Kp No w w' := by
  obtain ⟨b, hb⟩ : ∃ v, w.heap.size = v := ⟨_, rfl⟩
  obtain ⟨w1, hw1⟩ : ∃ v, w.alloc (.map #[] 0) = v := ⟨_, rfl⟩
  have hmk : (Instr.makeMap 111 none).run Try.prog w = .ok (.map (some b)) w1 := by rw [← hw1, ← hb]; rfl
  have hk1 : Kp No w w1 := by rw [← hw1]; exact (Kp.refl _ _).alloc _
  have hmp : MapRp Rp.line w1 No b spotV [] := by rw [← hw1, ← hb]; exact MapRp.made w _
  obtain ⟨m, hm⟩ : ∃ v, w1.heap.size = v := ⟨_, rfl⟩
  obtain ⟨w2, hw2⟩ : ∃ v, w1.alloc (.cells #[.map (some b), .slice none 0 0] 113) = v := ⟨_, rfl⟩
  have hk2 : Kp No w1 w2 := by rw [← hw2]; exact (Kp.refl _ _).alloc _
  have hbl : Blk w2 m 113 [.map (some b), .slice none 0 0] := by rw [← hw2, ← hm]; exact Blk.new w1 _ _
  have hbm : b < m := by rw [← hm]; exact hmp.lt
  have HMA : Hid (MAt w2 m ⟨[], []⟩ (MFoot m b (.slice none 0 0) No)) := Lib.hid ⟨b, .slice none 0 0, No, ⟨hbl, hmp.keptNo hk2, Own.nil _ _ _ _ _, by omega, fun h => h, fun h => h, by simp [Value.ownBlock], by simp [Value.ownBlock], fun k h => h.elim, fun k h => h.elim⟩, fun k => Iff.rfl⟩
  have HK := Lib.hid (hk1.trans' hk2)
  have HF : Hid (∀ k, MFoot m b (.slice none 0 0) No k → w.heap.size ≤ k) := Lib.hid (by
    rintro k (h | h | h | h)
    · omega
    · omega
    · simp [Value.ownBlock] at h
    · exact h.elim)
  clear hw1 hk1 hmp hk2 hbl hbm
  go_enter Try.func16, Try.ntmps16
  go_wp2_with fail
  go_ret
  exact ⟨m, _, rfl, HMA.out, HF.out, HK.out⟩
set_option maxRecDepth 100000 in
theorem m_asked_nil (a : AskL) (w : World) : Calls Try.prog 23 #[.pointer none, askV a] w fun e w' => e = .returned (.tuple #[]) ∧ Kp No w w' := by
  unfold askV
  have HK : Hid (Kp No w (w.alloc (.cells #[.int .i64 a.kind, .int .i64 a.client, .int .i64 a.seq, .string a.name, .string a.data, .int .i64 a.mode, .int .i64 a.lag] 52))) := Lib.hid ((Kp.refl _ _).alloc _)
  go_enter Try.func23, Try.ntmps23
  go_wp2_with fail
  go_end0
  exact ⟨rfl, HK.out⟩
set_option maxRecDepth 100000 in
theorem m_copy_nil (w : World) : Calls Try.prog 27 #[.pointer none] w fun e w' => e = .returned (.pointer none) ∧ w' = w := by
  go_enter Try.func27, Try.ntmps27
  go_wp2_with fail
  go_ret
  exact ⟨rfl, rfl⟩
theorem el_ask : Elem Try.prog 72 52 7 72 := Elem.of Try.underlying72 (z := .agg #[.int .i64 0, .int .i64 0, .int .i64 0, .string ByteArray.empty, .string ByteArray.empty, .int .i64 0, .int .i64 0]) (by kernel_rfl) rfl (by decide)
theorem Rp.ask_one {w : World} : ∀ cs a S', Rp.ask.R w S' cs a → ∀ u ∈ cs, u.oneCell' = true := by
  rintro cs a S' ⟨rfl, _⟩ u hu
  simp only [AskL.cells, List.mem_cons, List.not_mem_nil, or_false] at hu
  rcases hu with rfl | rfl | rfl | rfl | rfl | rfl | rfl <;> rfl
set_option maxRecDepth 100000 in
theorem m_live_nil (p : Int × Int) (w : World) : Calls Try.prog 58 #[.pointer none, spotV p] w fun e w' => ∃ b, e = .returned (.tuple #[.map (some b), .bool false]) ∧ w.heap.size ≤ b ∧ MapRp Rp.opl w' No b Value.string [] ∧ Kp No w w' := by
  obtain ⟨wa, hwa⟩ : ∃ v, w.alloc (.cells #[.int .i64 p.1, .int .i64 p.2] 54) = v := ⟨_, rfl⟩
  have hka : Kp No w wa := by rw [← hwa]; exact (Kp.refl _ _).alloc _
  obtain ⟨at_, hat⟩ : ∃ v, w.heap.size = v := ⟨_, rfl⟩
  have hba : Blk wa at_ 54 [.int .i64 p.1, .int .i64 p.2] := by rw [← hwa, ← hat]; exact Blk.new w _ _
  have s0 : wa.cell? ⟨at_, 0, none⟩ = some _ := Blk.cell hba rfl
  have s1 : wa.cell? ⟨at_, 1, none⟩ = some _ := Blk.cell hba rfl
  have hpa := m_path_nil p wa
  unfold spotV at hpa ⊢
  have HPA := Lib.hid hpa
  have HKA := Lib.hid hka
  clear hpa hka hba
  go_enter Try.func58, Try.ntmps58
  go_wp2_with fail
  clear hwa s0 s1 hat
  refine HPA.out.mono ?_
  rintro e w1 ⟨rfl, hk1⟩
  obtain ⟨b, hb⟩ : ∃ v, w1.heap.size = v := ⟨_, rfl⟩
  obtain ⟨w2, hw2⟩ : ∃ v, w1.alloc (.map #[] 0) = v := ⟨_, rfl⟩
  have hk2 : Kp No w1 w2 := by rw [← hw2]; exact (Kp.refl _ _).alloc _
  have HMP : Hid (MapRp Rp.opl w2 No b Value.string []) := Lib.hid (by rw [← hw2, ← hb]; exact MapRp.made w1 _)
  have HK2 := Lib.hid ((HKA.out.trans' hk1).trans' hk2)
  have HBW : Hid (w.heap.size ≤ b) := Lib.hid (by rw [← hb]; exact (HKA.out.trans' hk1).size)
  have hmk : (Instr.makeMap 129 none).run Try.prog w1 = .ok (.map (some b)) w2 := by rw [← hw2, ← hb]; rfl
  clear hk1 hk2 HPA HKA hw2 hb
  go_wp2_with fail
  clear hmk
  go_loopw [20] (fun iv wr => iv = .int .i64 0 ∧ wr = w2) (fun _ _ => 0)
  case atStart => exact ⟨rfl, rfl⟩
  case round =>
    obtain ⟨rfl, rfl⟩ := hrel
    go_wp2_with fail
    exact bodyPost_ret (results_tmp2 rfl _ _ _) rfl ⟨b, rfl, HBW.out, HMP.out, HK2.out⟩
set_option maxRecDepth 100000 in
theorem m_names_nil (p : Int × Int) (w : World) : Calls Try.prog 29 #[.pointer none, spotV p] w fun e w' => ∃ A c, e = .returned (.tuple #[.slice A 0 c, .bool false]) ∧ Kp No w w' := by
  obtain ⟨wa, hwa⟩ : ∃ v, w.alloc (.cells #[.int .i64 p.1, .int .i64 p.2] 54) = v := ⟨_, rfl⟩
  have hka : Kp No w wa := by rw [← hwa]; exact (Kp.refl _ _).alloc _
  obtain ⟨at_, hat⟩ : ∃ v, w.heap.size = v := ⟨_, rfl⟩
  have hba : Blk wa at_ 54 [.int .i64 p.1, .int .i64 p.2] := by rw [← hwa, ← hat]; exact Blk.new w _ _
  have s0 : wa.cell? ⟨at_, 0, none⟩ = some _ := Blk.cell hba rfl
  have s1 : wa.cell? ⟨at_, 1, none⟩ = some _ := Blk.cell hba rfl
  have hlv := m_live_nil p wa
  unfold spotV at hlv ⊢
  have HLV := Lib.hid hlv
  have HKA := Lib.hid hka
  clear hlv hka hba
  go_enter Try.func29, Try.ntmps29
  go_wp2_with fail
  clear hwa s0 s1 hat
  refine HLV.out.mono ?_
  rintro e w1 ⟨b, rfl, hbw, hmp, hk1⟩
  obtain ⟨lv, hm, hkey, _⟩ := hmp
  have hlv0 : lv = [] := by
    have := congrArg List.length hkey
    simp only [List.length_map, List.length_nil] at this
    exact List.eq_nil_of_length_eq_zero this
  subst hlv0
  have HK1 := Lib.hid (HKA.out.trans' hk1)
  have HKS := Lib.hid (m_keys_Op b w1)
  have hso := m_sorted_Op b [] w1 hm (fun q hq => by simp at hq) (by simp)
  simp only [List.map_nil, sortedN_length, List.length_nil] at hso
  have HSO := Lib.hid hso
  clear hbw hm hkey hk1 HLV HKA hso
  go_wp2_with fail
  refine HKS.out.mono ?_
  rintro e w2 ⟨rfl, rfl⟩
  go_wp2_with fail
  refine HSO.out.mono ?_
  rintro e w3 ⟨A, c, rfl, hown, hk3⟩
  have HK3 := Lib.hid hk3
  clear hown hk3
  go_wp2_with fail
  exact bodyPost_ret (results_tmp2 rfl _ _ _) rfl ⟨A, c, rfl, HK1.out.trans' HK3.out⟩
theorem run_load_ask {w : World} {y : Nat} {a : AskL} (h : Blk w y 52 [.int .i64 a.kind, .int .i64 a.client, .int .i64 a.seq, .string a.name, .string a.data, .int .i64 a.mode, .int .i64 a.lag]) :
    (Instr.loadAt 52 (.pointer (some ⟨y, 0, none⟩))).run Try.prog w = .ok (askV a) w := by
  have y0 : w.cell? ⟨y, 0, none⟩ = some _ := Blk.cell h rfl
  have y1 : w.cell? ⟨y, 1, none⟩ = some _ := Blk.cell h rfl
  have y2 : w.cell? ⟨y, 2, none⟩ = some _ := Blk.cell h rfl
  have y3 : w.cell? ⟨y, 3, none⟩ = some _ := Blk.cell h rfl
  have y4 : w.cell? ⟨y, 4, none⟩ = some _ := Blk.cell h rfl
  have y5 : w.cell? ⟨y, 5, none⟩ = some _ := Blk.cell h rfl
  have y6 : w.cell? ⟨y, 6, none⟩ = some _ := Blk.cell h rfl
  clear h
  unfold askV
  go_simp
theorem ask_lit (w : World) (a : AskL) (S : Nat → Prop) (hS : S w.heap.size) (hn : a.nums) :
    Rp.ask.slice.R (w.alloc (.cells #[.int .i64 a.kind, .int .i64 a.client, .int .i64 a.seq, .string a.name, .string a.data, .int .i64 a.mode, .int .i64 a.lag] 52)) S [.slice (some ⟨w.heap.size, 0, none⟩) 1 1] [a] := by
  refine ⟨_, _, rfl, Nat.le_refl _, by unfold maxLen; simp, fun _ => ⟨_, rfl, hS, fun i b hi => ?_⟩⟩
  obtain rfl : i = 0 := by have := (List.getElem?_eq_some_iff.1 hi).1; simp at this; exact this
  injection hi with hi
  subst hi
  refine ⟨a.cells, fun j u hu => ?_, rfl, hn⟩
  rw [Addr.add_lit, Addr.add_lit]
  have hb : Blk (w.alloc (.cells #[.int .i64 a.kind, .int .i64 a.client, .int .i64 a.seq, .string a.name, .string a.data, .int .i64 a.mode, .int .i64 a.lag] 52)) w.heap.size 52 a.cells := Blk.new w _ _
  have h2 := hb.cell hu
  simpa using h2
set_option maxRecDepth 100000 in
set_option maxHeartbeats 4000000 in
theorem m_asked (a : AskL) (m : Nat) (M : MV) (F : Nat → Prop) (w : World) (hM : MAt w m M F) (hn : a.nums) (hl : M.asks.length ≤ 1000000) :
    Calls Try.prog 23 #[.pointer (some ⟨m, 0, none⟩), askV a] w fun e w' => e = .returned (.tuple #[]) ∧ ∃ F', MAt w' m (if a.kind = 1 then { M with asks := M.asks ++ [a] } else M) F' ∧ Upd F w w' F' := by
  obtain ⟨y, hy⟩ : ∃ v, w.heap.size = v := ⟨_, rfl⟩
  obtain ⟨wa, hwa⟩ : ∃ v, w.alloc (.cells #[.int .i64 a.kind, .int .i64 a.client, .int .i64 a.seq, .string a.name, .string a.data, .int .i64 a.mode, .int .i64 a.lag] 52) = v := ⟨_, rfl⟩
  have hka : Kp No w wa := by rw [← hwa]; exact (Kp.refl _ _).alloc _
  have hba : Blk wa y 52 [.int .i64 a.kind, .int .i64 a.client, .int .i64 a.seq, .string a.name, .string a.data, .int .i64 a.mode, .int .i64 a.lag] := by rw [← hwa, ← hy]; exact Blk.new w _ _
  have y0 : wa.cell? ⟨y, 0, none⟩ = some _ := Blk.cell hba rfl
  have HMA := Lib.hid (hM.keptNo hka)
  have HMW : Hid (∀ k, F k → k < w.heap.size) := Lib.hid (fun k hk => hM.lt hk)
  have HKA := Lib.hid hka
  have HBA := Lib.hid hba
  have HYW : Hid (w.heap.size ≤ y) := Lib.hid (Nat.le_of_eq hy)
  by_cases h1 : a.kind = 1
  case neg =>
    have hkb : (a.kind == 1) = false := beq_eq_false_iff_ne.2 h1
    rw [if_neg h1]
    unfold askV
    clear hka hba h1 hM
    go_enter Try.func23, Try.ntmps23
    go_wp2_with fail
    go_end0
    exact ⟨rfl, F, HMA.out, HKA.out.any, fun k hk => .inl hk⟩
  have hkb : (a.kind == 1) = true := beq_iff_eq.2 h1
  rw [if_pos h1]
  obtain ⟨b, av, S, hin, hft⟩ := HMA.out
  obtain ⟨Av, cv, hav⟩ := hin.ask.shape
  obtain ⟨wd, hwd⟩ : ∃ v, wa.drew = v := ⟨_, rfl⟩
  have hkd : Kp No wa wd := by rw [← hwd]; exact (Kp.refl _ _).drew
  have hbd := hba.kept hkd (fun z => z)
  have hmd := hin.blk.kept hkd (fun z => z)
  obtain ⟨g1, hg1⟩ : ∃ v, wd.heap.size = v := ⟨_, rfl⟩
  obtain ⟨w3, hw3⟩ : ∃ v, wd.alloc (.cells #[.int .i64 a.kind, .int .i64 a.client, .int .i64 a.seq, .string a.name, .string a.data, .int .i64 a.mode, .int .i64 a.lag] 52) = v := ⟨_, rfl⟩
  have hk3 : Kp No wd w3 := by rw [← hw3]; exact (Kp.refl _ _).alloc _
  have hin3 : MIn w3 m b av S M := hin.kept (hkd.trans' hk3) (fun k _ h => h)
  have hsrc := ask_lit wd a (fun k => k = g1) hg1 hn
  rw [hg1, hw3] at hsrc
  have hgl : ∀ k, MFoot m b av S k → k < g1 := fun k hk => by rw [← hg1]; exact Nat.lt_of_lt_of_le (hin.lt hk) hkd.size
  have HIN3 := Lib.hid hin3
  have HSRC := Lib.hid hsrc
  have HGL := Lib.hid hgl
  have HFT := Lib.hid hft
  have HK3 := Lib.hid ((HKA.out.trans' hkd).trans' hk3)
  have HLM := Lib.hid hl
  have k1 : wd.cell? ⟨m, 1, none⟩ = some av := Blk.cell hmd rfl
  have x0 : wd.cell? ⟨y, 0, none⟩ = some _ := Blk.cell hbd rfl
  have x1 : wd.cell? ⟨y, 1, none⟩ = some _ := Blk.cell hbd rfl
  have x2 : wd.cell? ⟨y, 2, none⟩ = some _ := Blk.cell hbd rfl
  have x3 : wd.cell? ⟨y, 3, none⟩ = some _ := Blk.cell hbd rfl
  have x4 : wd.cell? ⟨y, 4, none⟩ = some _ := Blk.cell hbd rfl
  have x5 : wd.cell? ⟨y, 5, none⟩ = some _ := Blk.cell hbd rfl
  have x6 : wd.cell? ⟨y, 6, none⟩ = some _ := Blk.cell hbd rfl
  unfold askV
  subst hav
  clear hka hba hkd hbd hmd hk3 hin3 hsrc hgl hin hft hM hn hl h1
  go_enter Try.func23, Try.ntmps23
  go_wp2_with fail
  clear hwa hy y0
  refine Reg.wp_region_plan [⟨0, false, []⟩, ⟨1, false, []⟩, ⟨2, false, []⟩, ⟨3, false, []⟩, ⟨4, false, []⟩, ⟨5, false, []⟩, ⟨6, true, [2, 3, 4]⟩, ⟨7, true, []⟩, ⟨8, false, []⟩, ⟨9, false, []⟩, ⟨10, true, []⟩] rfl (by kernel_rfl) ?_
  rw [hwd]
  clear hwd
  repeat (first | (refine Reg.look rfl rfl rfl (by go_simp; rfl) rfl ?_; go_simp) | (refine Reg.skip rfl rfl rfl ?_; go_simp))
  refine Reg.act rfl ?_
  go_wp2_with fail
  clear k1 x0 x1 x2 x3 x4 x5 x6 hg1 hw3
  have k1 : w3.cell? ⟨m, 1, none⟩ = some _ := Blk.cell HIN3.out.blk rfl
  (refine ⟨?anew, ?_⟩; case anew => ((repeat (refine Reg.anew_cons rfl rfl (fun _ => by go_simp) ?_)); exact Reg.anew_nil))
  repeat (first | (refine Reg.look rfl rfl rfl (by go_simp; rfl) rfl ?_; go_simp) | (refine Reg.skip rfl rfl rfl ?_; go_simp))
  refine Reg.act rfl ?_
  refine wpList_append_rp (E := Rp.ask) rfl _ (.tmp 15) (.tmp 17) 72 rfl 0 52 72 el_ask (fun k => k = g1) (.slice Av M.asks.length cv) M.asks rfl (HIN3.out.ask.mono (Nat.le_refl _) (fun _ h => h.elim)) (some ⟨g1, 0, none⟩) 1 (fun k => k = g1) [a] rfl HSRC.out Rp.ask_one ?hcap ?hby (Nat.zero_le _) (fun _ h => h) ?hsv ?_
  case hcap => have := HLM.out; simp [maxLen]; omega
  case hby => have := HLM.out; simp; omega
  case hsv => exact fun k hk e => by have := HGL.out k (.inr (.inr (.inl hk))); omega
  intro av2 w4 hown hgr hbl
  have hk4 : Kp (fun k => (Value.slice Av M.asks.length cv).ownBlock = some k) w3 w4 := (Kp.refl _ _).grown hgr (fun g hg _ => hg)
  have hin := HIN3.out
  have hbm := hin.blk.kept hk4 hin.am
  have k1' : w4.cell? ⟨m, 1, none⟩ = some _ := Blk.cell hbm rfl
  have f1 := Blk.fr hbm 1
  have hk5 : Kp (· = m) w4 (w4.setCell ⟨m, 1, none⟩ av2) := (Kp.refl (· = m) w4).setCell (p := ⟨m, 1, none⟩) (fun _ => rfl) _
  have hg3 : ∀ k, MFoot m b (.slice Av M.asks.length cv) S k → k < w3.heap.size := fun k hk => hin.lt hk
  have hown2 : Own Rp.ask w4 No 0 52 av2 (M.asks ++ [a]) := by
    obtain ⟨xs, q1, q2, q3⟩ := hown
    exact ⟨xs, q1, q2, fun i a ha => q3 i a ha⟩
  have hob : ∀ k, av2.ownBlock = some k → (Value.slice Av M.asks.length cv).ownBlock = some k ∨ k = w3.heap.size := fun k hk => by
    rcases hbl with h | h
    · exact .inl (h ▸ hk)
    · rw [h] at hk; injection hk with hk; exact .inr hk.symm
  have hmm : m ≠ w3.heap.size := by have := hg3 m (.inl rfl); omega
  have hmb : b ≠ w3.heap.size := by have := hg3 b (.inr (.inl rfl)); omega
  have HFIN : Hid (MIn (w4.setCell ⟨m, 1, none⟩ av2) m b av2 S { M with asks := M.asks ++ [a] }) := Lib.hid
    ⟨Blk.set hbm 1 av2, (hin.map.kept hk4 hin.ab (fun k hs _ => hin.sa k hs)).kept hk5 (fun e => hin.mb e.symm) (fun k hs _ e => hin.sm (e ▸ hs)), hown2.kept hk5 (fun _ hs _ _ => hs) (fun k hv e => by
        rcases hob k hv with h | h
        · exact hin.am (e ▸ h)
        · omega), hin.mb, hin.sm, hin.sb, fun h => (hob m h).elim hin.am hmm, fun h => (hob b h).elim hin.ab hmb, fun k hs h => (hob k h).elim (hin.sa k hs) (fun e => by have := hin.hi k hs; omega), fun k hs => Nat.lt_of_lt_of_le (hin.hi k hs) (Nat.le_trans hk4.size hk5.size)⟩
  have HUP : Hid (Upd F w (w4.setCell ⟨m, 1, none⟩ av2) (MFoot m b av2 S)) := Lib.hid ⟨(HK3.out.any.trans hk4 (fun k _ h => (HFT.out k).2 (.inr (.inr (.inl h))))).trans hk5 (fun k _ h => (HFT.out k).2 (.inl h)), fun k hk => by
    rcases hk with h | h | h | h
    · exact .inl ((HFT.out k).2 (.inl h))
    · exact .inl ((HFT.out k).2 (.inr (.inl h)))
    · rcases hob k h with h | h
      · exact .inl ((HFT.out k).2 (.inr (.inr (.inl h))))
      · exact .inr (by have := HK3.out.size; omega)
    · exact .inl ((HFT.out k).2 (.inr (.inr (.inr h))))⟩
  obtain ⟨A2, c2, hsh⟩ := hown.shape
  obtain ⟨n2, hn2⟩ : ∃ v, (M.asks ++ [a]).length = v := ⟨_, rfl⟩
  rw [hn2] at hsh
  clear hown hgr hbl hk4 hin hbm hk5 hg3 hown2 hob hmm hmb k1 hn2
  subst hsh
  go_wp2_with fail
  (refine ⟨?anew, ?_⟩; case anew => ((repeat (refine Reg.anew_cons rfl rfl (fun _ => by go_simp) ?_)); exact Reg.anew_nil))
  repeat (first | (refine Reg.look rfl rfl rfl (by go_simp; rfl) rfl ?_; go_simp) | (refine Reg.skip rfl rfl rfl ?_; go_simp))
  refine Reg.act rfl ?_
  go_wp2_with fail
  (refine ⟨?anew, ?_⟩; case anew => ((repeat (refine Reg.anew_cons rfl rfl (fun _ => by go_simp) ?_)); exact Reg.anew_nil))
  repeat (first | (refine Reg.look rfl rfl rfl (by go_simp; rfl) rfl ?_; go_simp) | (refine Reg.skip rfl rfl rfl ?_; go_simp))
  (refine Reg.done ?_; simp only [Exit.then])
  go_wp2_with fail
  go_end0
  exact ⟨rfl, _, ⟨b, _, S, HFIN.out, fun k => Iff.rfl⟩, HUP.out⟩
end

section
open Go.RowKit Go.ChangeShapes Go.WideShapes Go.ChangeAt

theorem Rp.at_ask {w : World} {S : Nat → Prop} {A : Option Addr} {c : Nat} {l : List AskL} (h : Rp.ask.slice.R w S [.slice A l.length c] l) {i : Nat} {x : AskL} (hi : l[i]? = some x) :
    ∃ ad, A = some ad ∧ S ad.block ∧ (∀ (j : Nat) u, x.cells[j]? = some u → w.cell? ((ad.add (i * 7)).add j) = some u) ∧ x.nums := by
  obtain ⟨A2, c2, he, _, _, h3⟩ := h
  simp only [List.cons.injEq, Value.slice.injEq, and_true, true_and] at he
  obtain ⟨rfl, rfl⟩ := he
  have hl : 0 < l.length := by have := (List.getElem?_eq_some_iff.1 hi).1; omega
  obtain ⟨ad, rfl, hb, hc⟩ := h3 hl
  obtain ⟨es, he, rfl, hn⟩ := hc i x hi
  exact ⟨ad, rfl, hb, fun j u hu => he j u hu, hn⟩
theorem ask_cells {w : World} {ad : Addr} {t : AskL} (h : ∀ (j : Nat) u, t.cells[j]? = some u → w.cell? (ad.add j) = some u) :
    w.cell? ad = some (.int .i64 t.kind) ∧ w.cell? ⟨ad.block, ad.off + 1, none⟩ = some (.int .i64 t.client) ∧ w.cell? ⟨ad.block, ad.off + 2, none⟩ = some (.int .i64 t.seq) ∧ w.cell? ⟨ad.block, ad.off + 3, none⟩ = some (.string t.name) ∧
    w.cell? ⟨ad.block, ad.off + 4, none⟩ = some (.string t.data) ∧ w.cell? ⟨ad.block, ad.off + 5, none⟩ = some (.int .i64 t.mode) ∧ w.cell? ⟨ad.block, ad.off + 6, none⟩ = some (.int .i64 t.lag) :=
  ⟨h 0 _ rfl, h 1 _ rfl, h 2 _ rfl, h 3 _ rfl, h 4 _ rfl, h 5 _ rfl, h 6 _ rfl⟩
/-- the put that an operation is -/
def putB (o : OpL) (d : ByteArray) (a : AskL) : Bool := decide (a.client = o.client ∧ a.seq = o.seq ∧ a.name = o.name ∧ a.data = d)
def fnV (y z : Nat) : Value := .func (.func 83) #[] #[.pointer (some ⟨y, 0, none⟩), .pointer (some ⟨z, 0, none⟩)]
set_option maxRecDepth 100000 in
set_option maxHeartbeats 4000000 in
theorem m_index (l : List AskL) (A : Option Addr) (c y z : Nat) (pr : AskL → Bool) (S : Nat → Prop) (w : World) (hl : Rp.ask.slice.R w S [.slice A l.length c] l)
    (hf : ∀ a w', Kp No w w' → Calls Try.prog 83 #[askV a, .pointer (some ⟨y, 0, none⟩), .pointer (some ⟨z, 0, none⟩)] w' fun e w2 => e = .returned (.bool (pr a)) ∧ Kp No w' w2) :
    Calls Try.prog 102 #[.slice A l.length c, fnV y z] w fun e w' => ∃ r : Int, e = .returned (.int .i64 r) ∧ decide (r ≥ 0) = l.any pr ∧ Kp No w w' := by
  have hll : (l.length : Int) ≤ 9223372036854775807 := by
    obtain ⟨_, _, he, h1, h2, _⟩ := id hl
    simp only [List.cons.injEq, Value.slice.injEq, and_true] at he
    unfold maxLen at h2
    omega
  have HL := Lib.hid hl
  have HF := Lib.hid hf
  unfold fnV
  clear hl hf
  go_enter Try.func102, Try.ntmps102
  go_wp2_with fail
  go_loopw [8] (fun iv wr => ∃ i : Nat, i ≤ l.length ∧ iv = .int .i64 (i : Int) ∧ Hid (∀ a ∈ l.take i, pr a = false) ∧ Hid (Kp No w wr)) (fun iv _ => l.length - (intOf iv).toNat)
  case atStart => exact ⟨0, Nat.zero_le _, rfl, Lib.hid (fun a ha => by simp at ha), Lib.hid (Kp.refl _ _)⟩
  case round =>
    obtain ⟨i, hi, rfl, HNO, HKR⟩ := hrel
    by_cases hlt : i < l.length
    · have hli : (i : Int) < (l.length : Int) := by omega
      obtain ⟨a, ha⟩ : ∃ a, l[i]? = some a := ⟨_, List.getElem?_eq_getElem hlt⟩
      obtain ⟨ad, rfl, _, hcell, hn⟩ := Rp.at_ask (Rp.ask.slice.keptNo HL.out HKR.out) ha
      obtain ⟨z0, z1, z2, z3, z4, z5, z6⟩ := ask_cells hcell
      have hfa := HF.out a wr HKR.out
      unfold askV at hfa
      have HFA := Lib.hid hfa
      have HTK : Hid (l.take (i + 1) = l.take i ++ [a]) := Lib.hid (by
        obtain ⟨e1, e2⟩ := List.getElem?_eq_some_iff.1 ha
        rw [List.take_succ_eq_append_getElem e1, e2])
      have HIN := Lib.hid (List.mem_of_getElem? ha)
      clear hcell ha hfa
      go_wp2_with fail
      refine HFA.out.mono ?_
      rintro e w2 ⟨rfl, hk2⟩
      have HK2 := Lib.hid (HKR.out.trans' hk2)
      clear hk2 z0 z1 z2 z3 z4 z5 z6
      obtain ⟨B, hB⟩ : ∃ B, pr a = B := ⟨_, rfl⟩
      have HB := Lib.hid hB
      rw [hB]
      clear hB
      cases B
      case false =>
        go_wp2_with fail
        go_roundw
        case rel => exact ⟨i + 1, by omega, by go_num, Lib.hid (fun b hb => by
          rw [HTK.out] at hb
          rcases List.mem_append.1 hb with hb | hb
          · exact HNO.out b hb
          · rw [List.mem_singleton.1 hb]; exact HB.out), HK2⟩
        case measure => simp [intOf]; omega
      case true =>
        go_wp2_with fail
        go_ret
        exact ⟨_, rfl, by rw [List.any_eq_true.2 ⟨a, HIN.out, HB.out⟩]; exact decide_eq_true (by omega), HK2.out⟩
    · obtain rfl : i = l.length := by omega
      have HNA : Hid (l.any pr = false) := Lib.hid (by
        rw [List.any_eq_false]
        intro a ha
        rw [HNO.out a (by rw [List.take_length]; exact ha)]; simp)
      go_wp2_with fail
      go_ret
      exact ⟨_, rfl, by rw [HNA.out]; rfl, HKR.out⟩
set_option maxRecDepth 100000 in
set_option maxHeartbeats 4000000 in
theorem m_putf (o : OpL) (d : ByteArray) (hv : Value) (y z : Nat) (a : AskL) (w : World) (hy : Blk w y 38 [.int .i64 o.n, .int .i64 o.epoch, .int .i64 o.kind, .int .i64 o.site, .int .i64 o.client, .int .i64 o.seq, .string o.name, .int .i64 o.size, hv]) (hz : Blk w z 9 [.string d]) :
    Calls Try.prog 83 #[askV a, .pointer (some ⟨y, 0, none⟩), .pointer (some ⟨z, 0, none⟩)] w fun e w' => e = .returned (.bool (putB o d a)) ∧ Kp No w w' := by
  obtain ⟨x, hx⟩ : ∃ v, w.heap.size = v := ⟨_, rfl⟩
  obtain ⟨wa, hwa⟩ : ∃ v, w.alloc (.cells #[.int .i64 a.kind, .int .i64 a.client, .int .i64 a.seq, .string a.name, .string a.data, .int .i64 a.mode, .int .i64 a.lag] 52) = v := ⟨_, rfl⟩
  have hka : Kp No w wa := by rw [← hwa]; exact (Kp.refl _ _).alloc _
  have hba : Blk wa x 52 [.int .i64 a.kind, .int .i64 a.client, .int .i64 a.seq, .string a.name, .string a.data, .int .i64 a.mode, .int .i64 a.lag] := by rw [← hwa, ← hx]; exact Blk.new w _ _
  have hyk := hy.kept hka (fun z => z)
  have hzk := hz.kept hka (fun z => z)
  have x1 : wa.cell? ⟨x, 1, none⟩ = some _ := Blk.cell hba rfl
  have x2 : wa.cell? ⟨x, 2, none⟩ = some _ := Blk.cell hba rfl
  have x3 : wa.cell? ⟨x, 3, none⟩ = some _ := Blk.cell hba rfl
  have x4 : wa.cell? ⟨x, 4, none⟩ = some _ := Blk.cell hba rfl
  have y4 : wa.cell? ⟨y, 4, none⟩ = some _ := Blk.cell hyk rfl
  have y5 : wa.cell? ⟨y, 5, none⟩ = some _ := Blk.cell hyk rfl
  have y6 : wa.cell? ⟨y, 6, none⟩ = some _ := Blk.cell hyk rfl
  have q0 : wa.cell? ⟨z, 0, none⟩ = some _ := Blk.cell hzk rfl
  have HK := Lib.hid hka
  obtain ⟨R, hR⟩ : ∃ R, putB o d a = R := ⟨_, rfl⟩
  rw [hR]
  unfold putB at hR
  have HR := Lib.hid hR
  unfold askV
  clear hka hba hyk hzk hy hz hR
  obtain ⟨on, oe, ok, os, oc, oq, onm, osz, ohs⟩ := o
  obtain ⟨ak, ac, aq, anm, adt, am, al⟩ := a
  simp only at *
  by_cases e1 : ac = oc
  case neg =>
    have f : (ac == oc) = false := beq_eq_false_iff_ne.2 e1
    have HF : Hid (R = false) := Lib.hid (by rw [← HR.out]; exact decide_eq_false (fun h => e1 h.1))
    clear e1
    go_enter Try.func83, Try.ntmps83
    go_wp2_with fail
    go_ret
    exact ⟨by rw [HF.out]; rfl, HK.out⟩
  by_cases e2 : aq = oq
  case neg =>
    have f0 : (ac == oc) = true := beq_iff_eq.2 e1
    have f : (aq == oq) = false := beq_eq_false_iff_ne.2 e2
    have HF : Hid (R = false) := Lib.hid (by rw [← HR.out]; exact decide_eq_false (fun h => e2 h.2.1))
    clear e1 e2
    go_enter Try.func83, Try.ntmps83
    go_wp2_with fail
    go_ret
    exact ⟨by rw [HF.out]; rfl, HK.out⟩
  by_cases e3 : anm = onm
  case neg =>
    have f0 : (ac == oc) = true := beq_iff_eq.2 e1
    have f1 : (aq == oq) = true := beq_iff_eq.2 e2
    have f : (anm.toList == onm.toList) = false := by rw [bytes_list_beq]; exact decide_eq_false e3
    have HF : Hid (R = false) := Lib.hid (by rw [← HR.out]; exact decide_eq_false (fun h => e3 h.2.2.1))
    clear e1 e2 e3
    go_enter Try.func83, Try.ntmps83
    go_wp2_with fail
    go_ret
    exact ⟨by rw [HF.out]; rfl, HK.out⟩
  have f0 : (ac == oc) = true := beq_iff_eq.2 e1
  have f1 : (aq == oq) = true := beq_iff_eq.2 e2
  have f2 : (anm.toList == onm.toList) = true := by rw [bytes_list_beq]; exact decide_eq_true e3
  obtain ⟨Q, hQ⟩ : ∃ Q, decide (adt = d) = Q := ⟨_, rfl⟩
  have f3 : (adt.toList == d.toList) = Q := by rw [bytes_list_beq]; exact hQ
  have HF : Hid (R = Q) := Lib.hid (by rw [← HR.out, ← hQ]; simp [e1, e2, e3])
  clear e1 e2 e3 hQ
  go_enter Try.func83, Try.ntmps83
  go_wp2_with fail
  go_ret
  exact ⟨by rw [HF.out]; rfl, HK.out⟩
set_option maxRecDepth 100000 in
set_option maxHeartbeats 4000000 in
theorem m_contains (l : List AskL) (A : Option Addr) (c y z : Nat) (pr : AskL → Bool) (S : Nat → Prop) (w : World) (hl : Rp.ask.slice.R w S [.slice A l.length c] l)
    (hf : ∀ a w', Kp No w w' → Calls Try.prog 83 #[askV a, .pointer (some ⟨y, 0, none⟩), .pointer (some ⟨z, 0, none⟩)] w' fun e w2 => e = .returned (.bool (pr a)) ∧ Kp No w' w2) :
    Calls Try.prog 82 #[.slice A l.length c, fnV y z] w fun e w' => e = .returned (.bool (l.any pr)) ∧ Kp No w w' := by
  have HI := Lib.hid (m_index l A c y z pr S w hl hf)
  clear hl hf
  unfold fnV at *
  go_enter Try.func82, Try.ntmps82
  go_wp2_with fail
  refine HI.out.mono ?_
  rintro e w2 ⟨r, rfl, hr, hk⟩
  have HK := Lib.hid hk
  have HR := Lib.hid hr
  clear hk hr HI
  go_wp2_with fail
  go_ret
  exact ⟨by rw [← HR.out]; rfl, HK.out⟩
end

section
open Go.RowKit Go.ChangeShapes Go.WideShapes Go.ChangeAt

theorem results_ctM {P : Program} {fn : Func} {p u : Tmp} {ty : TypeId} (h : fn.results = #[.cell p ty, .tmp u]) (tmps : Array Value) (w : World) (g : Nat) (t : TypeId) (cs : Array Value) (fr : Nat × Nat) (d : TypeDesc)
    (hp : tmps.getD p undef = .pointer (some ⟨g, 0, none⟩)) (hg : w.heap[g]? = some (.cells cs t fr)) (hu : P.underlying ty = some d) (hd : (match d with | .struct _ | .array _ _ => true | _ => false) = true) (hi : (P.info? ty).map (·.size) = some cs.size) :
    (results fn tmps).run P w = .ok (.tuple #[.agg cs, tmps.getD u undef]) w := by
  rw [results_cell_tmp h, hp]
  simp [asAddr, run_loadVar_row w g t ty cs fr d hg hu hd hi, Result.andThen]
set_option maxRecDepth 100000 in
theorem m_count0 (w : World) : Calls Try.prog 105 #[.int .i64 0] w fun e w' => e = .returned (.int .i64 0) ∧ Kp No w w' := by
  go_enter Try.func105, Try.ntmps105
  go_wp2_with fail
  go_ret
  exact ⟨rfl, Kp.refl _ _⟩
set_option maxRecDepth 100000 in
theorem m_cut0 (w : World) : Calls Try.prog 100 #[.string ⟨#[]⟩] w fun e w' => ∃ A c, e = .returned (.slice A 0 c) ∧ Kp No w w' := by
  have HC := Lib.hid (m_count0 w)
  go_enter Try.func100, Try.ntmps100
  go_wp2_with fail
  refine HC.out.mono ?_
  rintro e w1 ⟨rfl, hk1⟩
  obtain ⟨w2, hmk, hown, hk2⟩ := own_make Rp.str w1 No 0 34 9 el_strL .i64 .i64 0 (by decide) (by decide) (Nat.zero_le _)
  have hmk2 : (Instr.makeSlice 34 (.int .i64 0) (.int .i64 0)).run Try.prog w1 = .ok (.slice (some ⟨w1.heap.size, 0, none⟩) 0 0) w2 := hmk
  have HK2 := Lib.hid (hk1.trans' hk2)
  clear hmk hown hk1 hk2
  go_wp2_with fail
  clear hmk2
  go_loopw [0, 3] (fun dv ov wr => dv = .string ⟨#[]⟩ ∧ ov = .slice (some ⟨w1.heap.size, 0, none⟩) 0 0 ∧ wr = w2) (fun _ _ _ => 0)
  case atStart => exact ⟨rfl, rfl, rfl⟩
  case round =>
    obtain ⟨rfl, rfl, rfl⟩ := hrel
    go_wp2_with fail
    go_ret
    exact ⟨_, _, rfl, HK2.out⟩
set_option maxRecDepth 100000 in
theorem m_make0 (w : World) : Calls Try.prog 81 #[.string ⟨#[]⟩] w fun e w' => e = .returned (.tuple #[.agg #[.int .i64 0, .slice none 0 0], .int .i64 0]) ∧ Kp No w w' := by
  go_enter Try.func81, Try.ntmps81
  go_wp2_with fail
  obtain ⟨x, hx⟩ : ∃ v, w.heap.size = v := ⟨_, rfl⟩
  obtain ⟨wa, hwa⟩ : ∃ v, (w.alloc (.cells #[.int .i64 0, .slice none 0 0] 36)).alloc (.cells #[.int .i64 0, .slice none 0 0] 36) = v := ⟨_, rfl⟩
  have hk : Kp No w wa := by rw [← hwa]; exact ((Kp.refl _ _).alloc _).alloc _
  have hb1 : Blk wa x 36 [.int .i64 0, .slice none 0 0] := by rw [← hwa, ← hx]; exact (Blk.new w _ _).kept (S := No) ((Kp.refl _ _).alloc _) (fun x => x)
  have hb2 : Blk wa (x + 1) 36 [.int .i64 0, .slice none 0 0] := by
    have h := Blk.new (w.alloc (.cells #[.int .i64 0, .slice none 0 0] 36)) [.int .i64 0, .slice none 0 0] 36
    rw [← hwa, ← hx]
    simpa using h
  rw [hwa, hx]
  refine (m_cut0 wa).mono ?_
  rintro e w2 ⟨A, c, rfl, hk2⟩
  have hc1 := hb1.kept hk2 (fun z => z)
  have hc2 := hb2.kept hk2 (fun z => z)
  have HK := Lib.hid (hk.trans' hk2)
  have HB1 := Lib.hid hc1
  have HXW : Hid (w.heap.size ≤ x) := Lib.hid (Nat.le_of_eq hx)
  have x0 : w2.cell? ⟨x + 1, 0, none⟩ = some _ := Blk.cell hc2 rfl
  have x1 : w2.cell? ⟨x + 1, 1, none⟩ = some _ := Blk.cell hc2 rfl
  have y0 : w2.cell? ⟨x, 0, none⟩ = some _ := Blk.cell hc1 rfl
  have y1 : w2.cell? ⟨x, 1, none⟩ = some _ := Blk.cell hc1 rfl
  have f0 := Blk.fr hc1 0
  have f1 := Blk.fr hc1 1
  clear hk hb1 hb2 hk2 hc1 hc2 hwa hx
  go_wp2_with fail
  go_loopw [17] (fun iv wr => iv = .int .i64 0 ∧ wr = w2) (fun _ _ => 0)
  case atStart => exact ⟨rfl, rfl⟩
  case round =>
    obtain ⟨rfl, rfl⟩ := hrel
    go_wp2_with fail
    have hfin : Blk ((wr.setCell ⟨x, 0, none⟩ (.int .i64 0)).setCell ⟨x, 1, none⟩ (.slice none 0 0)) x 36 [.int .i64 0, .slice none 0 0] := Blk.set (Blk.set HB1.out 0 (.int .i64 0)) 1 (.slice none 0 0)
    have hkf : Kp (· = x) wr ((wr.setCell ⟨x, 0, none⟩ (.int .i64 0)).setCell ⟨x, 1, none⟩ (.slice none 0 0)) := ((Kp.refl (· = x) wr).setCell (p := ⟨x, 0, none⟩) (fun _ => rfl) _).setCell (p := ⟨x, 1, none⟩) (fun _ => rfl) _
    exact bodyPost_ret (results_ctM rfl _ _ x _ _ _ _ rfl hfin Try.underlying36 rfl (by kernel_rfl)) rfl ⟨rfl, HK.out.trans hkf (fun k hk e => by have := HXW.out; omega)⟩
set_option maxRecDepth 100000 in
set_option maxHeartbeats 8000000 in
theorem m_put0 (o : OpL) (A : Option Addr) (c : Nat) (SO : Nat → Prop) (m : Nat) (M : MV) (F : Nat → Prop) (w : World) (hM : MAt w m M F) (hh : Rp.str.slice.R w SO [.slice A o.hashes.length c] o.hashes) :
    Calls Try.prog 62 #[.pointer (some ⟨m, 0, none⟩), opV o (.slice A o.hashes.length c), .string ⟨#[]⟩] w fun e w' => e = .returned (.bool (decide (o.size = 0 ∧ o.hashes = []) && M.asks.any (putB o ⟨#[]⟩))) ∧ Kp No w w' := by
  obtain ⟨y, hy⟩ : ∃ v, w.heap.size = v := ⟨_, rfl⟩
  obtain ⟨wb, hwb⟩ : ∃ v, w.alloc (.cells #[.int .i64 o.n, .int .i64 o.epoch, .int .i64 o.kind, .int .i64 o.site, .int .i64 o.client, .int .i64 o.seq, .string o.name, .int .i64 o.size, .slice A o.hashes.length c] 38) = v := ⟨_, rfl⟩
  have hkb : Kp No w wb := by rw [← hwb]; exact (Kp.refl _ _).alloc _
  have hbb : Blk wb y 38 [.int .i64 o.n, .int .i64 o.epoch, .int .i64 o.kind, .int .i64 o.site, .int .i64 o.client, .int .i64 o.seq, .string o.name, .int .i64 o.size, .slice A o.hashes.length c] := by rw [← hwb, ← hy]; exact Blk.new w _ _
  obtain ⟨z, hz⟩ : ∃ v, wb.heap.size = v := ⟨_, rfl⟩
  obtain ⟨wa, hwa⟩ : ∃ v, wb.alloc (.cells #[.string ⟨#[]⟩] 9) = v := ⟨_, rfl⟩
  have hkz : Kp No wb wa := by rw [← hwa]; exact (Kp.refl _ _).alloc _
  have hbz : Blk wa z 9 [.string ⟨#[]⟩] := by rw [← hwa, ← hz]; exact Blk.new wb _ _
  have q0 : wa.cell? ⟨z, 0, none⟩ = some _ := Blk.cell hbz rfl
  have HKA := Lib.hid (hkb.trans' hkz)
  have HBY := Lib.hid (hbb.kept hkz (fun z => z))
  have HBZ := Lib.hid hbz
  have HM := Lib.hid hM
  have HH := Lib.hid hh
  unfold opV
  clear hkb hbb hkz hbz hM hh
  go_enter Try.func62, Try.ntmps62
  go_wp2_with fail
  refine (m_make0 wa).mono ?_
  rintro e w2 ⟨rfl, hk2⟩
  go_upto_region 2 with fail
  obtain ⟨x, hx⟩ : ∃ v, w2.heap.size = v := ⟨_, rfl⟩
  obtain ⟨w3, hw3⟩ : ∃ v, w2.alloc (.cells #[.int .i64 0, .slice none 0 0] 36) = v := ⟨_, rfl⟩
  have hk3 : Kp No w2 w3 := by rw [← hw3]; exact (Kp.refl _ _).alloc _
  have hbx : Blk w3 x 36 [.int .i64 0, .slice none 0 0] := by rw [← hw3, ← hx]; exact Blk.new w2 _ _
  rw [hw3, hx]
  have HKB := Lib.hid (hk2.trans' hk3)
  have HK3 := Lib.hid (HKA.out.trans' HKB.out)
  have hby := HBY.out.kept HKB.out (fun z => z)
  have x0 : w3.cell? ⟨x, 0, none⟩ = some _ := Blk.cell hbx rfl
  have x1 : w3.cell? ⟨x, 1, none⟩ = some _ := Blk.cell hbx rfl
  have y7 : w3.cell? ⟨y, 7, none⟩ = some _ := Blk.cell hby rfl
  have y8 : w3.cell? ⟨y, 8, none⟩ = some _ := Blk.cell hby rfl
  have HE := Lib.hid (c_equalS [] o.hashes none A 0 c w3 No SO (Rp.none_ _ _ _) (Rp.str.slice.keptNo HH.out HK3.out))
  clear hwb hwa hk2 hk3 hbx hby hx hw3 q0 hy hz
  by_cases hs : o.size = 0
  case neg =>
    have hb : ((0 : Int) == o.size) = false := beq_eq_false_iff_ne.2 (fun e => hs e.symm)
    have hbn : ((0 : Int) != o.size) = true := by rw [bne, hb]; rfl
    have HF : Hid (decide (o.size = 0 ∧ o.hashes = []) = false) := Lib.hid (decide_eq_false (fun h => hs h.1))
    clear hs
    go_wp2_with fail
    go_ret
    exact ⟨by rw [HF.out]; rfl, HK3.out⟩
  have hb : ((0 : Int) == o.size) = true := beq_iff_eq.2 hs.symm
  have hbn : ((0 : Int) != o.size) = false := by rw [bne, hb]; rfl
  obtain ⟨Q, hQ⟩ : ∃ Q, decide ([] = o.hashes) = Q := ⟨_, rfl⟩
  rw [hQ] at HE
  have HF : Hid (decide (o.size = 0 ∧ o.hashes = []) = Q) := Lib.hid (by rw [← hQ]; exact decide_eq_decide.2 ⟨fun h => h.2.symm, fun h => ⟨hs, h.symm⟩⟩)
  clear hs hQ
  go_wp2_with fail
  refine HE.out.mono ?_
  rintro e w4 ⟨rfl, hk4⟩
  have HK4 := Lib.hid (HK3.out.trans' hk4)
  have HKC := Lib.hid (HKB.out.trans' hk4)
  clear hk4 x0 x1 y7 y8 HE
  cases Q
  case false =>
    go_wp2_with fail
    go_ret
    exact ⟨by rw [HF.out]; rfl, HK4.out⟩
  case true =>
    obtain ⟨bb, av, S, hin, _⟩ := HM.out.keptNo HK4.out
    obtain ⟨Av, cv, hav⟩ := hin.ask.shape
    have hrd := hin.ask.readFrom
    have k1 : w4.cell? ⟨m, 1, none⟩ = some av := Blk.cell hin.blk rfl
    rw [hav] at k1 hrd
    have HCT := Lib.hid (m_contains M.asks Av cv y z (putB o ⟨#[]⟩) _ w4 hrd (fun a w' hk => m_putf o ⟨#[]⟩ (.slice A o.hashes.length c) y z a w' (HBY.out.kept (HKC.out.trans' hk) (fun z => z)) (HBZ.out.kept (HKC.out.trans' hk) (fun z => z))))
    unfold fnV at HCT
    clear hin hav hrd
    go_wp2_with fail
    refine HCT.out.mono ?_
    rintro e w5 ⟨rfl, hk5⟩
    have HK5 := Lib.hid (HK4.out.trans' hk5)
    clear hk5 k1 HCT
    go_wp2_with fail
    go_ret
    exact ⟨by rw [HF.out]; rfl, HK5.out⟩
end

section
open Go.RowKit Go.ChangeShapes Go.WideShapes Go.ChangeAt

theorem zero_opM (w : World) : (zeroValue 38).run Try.prog w = .ok (opV zeroO (.slice none 0 0)) w := by
  unfold opV zeroO
  go_simp
  rfl
theorem live_look {w : World} {S : Nat → Prop} {b : Nat} {V : List (ByteArray × OpL)} (h : MapRp Rp.opl w S b Value.string V) (nm : ByteArray) : ∃ (o : OpL) (A : Option Addr) (n c : Nat) (B : Bool),
    (∀ w', Kp No w w' → (Instr.lookup 129 (.map (some b)) (.string nm) true).run Try.prog w' = .ok (.tuple #[opV o (.slice A n c), .bool B]) w') ∧ ((B = true ∧ mget nm V = some o ∧ n = o.hashes.length ∧ Rp.str.slice.R w S [.slice A n c] o.hashes) ∨ (B = false ∧ mget nm V = none)) := by
  obtain ⟨u, B, h3, h4⟩ := h.look_all (P := Try.prog) key_text Try.underlying129 nm zero_opM
  rcases h4 with ⟨rfl, a, cs, h5, rfl, hv, rfl, _, h6⟩ | ⟨rfl, h5, rfl⟩
  · obtain ⟨Av, cv, hv', _⟩ := id h6
    simp only [List.cons.injEq, and_true] at hv'
    subst hv'
    exact ⟨a, Av, _, cv, true, h3, .inl ⟨rfl, h5, rfl, h6⟩⟩
  · exact ⟨zeroO, none, 0, 0, false, h3, .inr ⟨rfl, h5⟩⟩
def putOk (M : MV) (o : OpL) : Bool := decide (o.size = 0 ∧ o.hashes = []) && M.asks.any (putB o ⟨#[]⟩)
def judge4 (M : MV) (p : Int × Int) (nm : ByteArray) : Int :=
  if (pathM M p).isSome = false then 51 else match mget nm (liveL1 (pathD M p)) with
    | none => 200
    | some o => if putOk M o = true then 0 else 200
set_option maxRecDepth 100000 in
theorem m_judge_nil (a : AskL) (x0 x1 x2 x3 : Int) (A B : Option Addr) (n c n2 c2 : Nat) (d : ByteArray) (w : World) : Calls Try.prog 25 #[.pointer none, askV a, .agg #[.int .i64 x0, .int .i64 x1, .int .i64 x2, .int .i64 x3, .slice A n c, .string d, .slice B n2 c2]] w fun e w' => e = .returned (.int .i64 2) ∧ Kp No w w' := by
  unfold askV
  have HK : Hid (Kp No w ((w.alloc (.cells #[.int .i64 a.kind, .int .i64 a.client, .int .i64 a.seq, .string a.name, .string a.data, .int .i64 a.mode, .int .i64 a.lag] 52)).alloc (.cells #[.int .i64 x0, .int .i64 x1, .int .i64 x2, .int .i64 x3, .slice A n c, .string d, .slice B n2 c2] 56))) := Lib.hid (((Kp.refl _ _).alloc _).alloc _)
  go_enter Try.func25, Try.ntmps25
  go_wp2_with fail
  go_ret
  exact ⟨rfl, HK.out⟩
set_option maxRecDepth 100000 in
set_option maxHeartbeats 16000000 in
theorem m_judge4 (a : AskL) (hk : a.kind = 4) (p : Int × Int) (m : Nat) (M : MV) (F : Nat → Prop) (w : World) (hM : MAt w m M F) (hok : OkM M) :
    Calls Try.prog 25 #[.pointer (some ⟨m, 0, none⟩), askV a, .agg #[.int .i64 0, .int .i64 0, .int .i64 p.1, .int .i64 p.2, .slice none 0 0, .string ⟨#[]⟩, .slice none 0 0]] w fun e w' => e = .returned (.int .i64 (judge4 M p a.name)) ∧ Kp No w w' := by
  obtain ⟨y, hy⟩ : ∃ v, w.heap.size = v := ⟨_, rfl⟩
  obtain ⟨wb, hwb⟩ : ∃ v, w.alloc (.cells #[.int .i64 a.kind, .int .i64 a.client, .int .i64 a.seq, .string a.name, .string a.data, .int .i64 a.mode, .int .i64 a.lag] 52) = v := ⟨_, rfl⟩
  have hkb : Kp No w wb := by rw [← hwb]; exact (Kp.refl _ _).alloc _
  have hbb : Blk wb y 52 [.int .i64 a.kind, .int .i64 a.client, .int .i64 a.seq, .string a.name, .string a.data, .int .i64 a.mode, .int .i64 a.lag] := by rw [← hwb, ← hy]; exact Blk.new w _ _
  obtain ⟨x, hx⟩ : ∃ v, wb.heap.size = v := ⟨_, rfl⟩
  obtain ⟨wa, hwa⟩ : ∃ v, wb.alloc (.cells #[.int .i64 0, .int .i64 0, .int .i64 p.1, .int .i64 p.2, .slice none 0 0, .string ⟨#[]⟩, .slice none 0 0] 56) = v := ⟨_, rfl⟩
  have hkx : Kp No wb wa := by rw [← hwa]; exact (Kp.refl _ _).alloc _
  have hbx : Blk wa x 56 [.int .i64 0, .int .i64 0, .int .i64 p.1, .int .i64 p.2, .slice none 0 0, .string ⟨#[]⟩, .slice none 0 0] := by rw [← hwa, ← hx]; exact Blk.new wb _ _
  have hby := hbb.kept hkx (fun z => z)
  have x1 : wa.cell? ⟨x, 1, none⟩ = some _ := Blk.cell hbx rfl
  have x2 : wa.cell? ⟨x, 2, none⟩ = some _ := Blk.cell hbx rfl
  have x3 : wa.cell? ⟨x, 3, none⟩ = some _ := Blk.cell hbx rfl
  have y0 : wa.cell? ⟨y, 0, none⟩ = some _ := Blk.cell hby rfl
  rw [hk] at y0
  have HKA := Lib.hid (hkb.trans' hkx)
  have HBY := Lib.hid hby
  have HBX := Lib.hid hbx
  have HM := Lib.hid hM
  have HLV := Lib.hid (m_live p m M F wa (hM.keptNo (hkb.trans' hkx)) hok)
  obtain ⟨R, hR⟩ : ∃ R, judge4 M p a.name = R := ⟨_, rfl⟩
  rw [hR]
  have HR := Lib.hid hR
  have HK4 := Lib.hid hk
  unfold spotV at HLV
  unfold askV
  clear hkb hbb hkx hbx hby hM hok hR hk
  go_enter Try.func25, Try.ntmps25
  go_wp2_with fail
  refine HLV.out.mono ?_
  rintro e w2 ⟨b, rfl, hbw, hmp, hk2⟩
  obtain ⟨o, A, n, c, IS, hlk, his⟩ := live_look hmp a.name
  unfold opV at hlk
  have hl := hlk w2 (Kp.refl _ _)
  have hby := HBY.out.kept hk2 (fun z => z)
  have y3 : w2.cell? ⟨y, 3, none⟩ = some _ := Blk.cell hby rfl
  have HIS := Lib.hid his
  have HK2 := Lib.hid (HKA.out.trans' hk2)
  have HK2a := Lib.hid hk2
  clear hwb hwa hy hx x1 x2 x3 y0 hbw hmp hk2 hlk his hby HLV
  go_upto_region 8 with fail
  obtain ⟨z, hz⟩ : ∃ v, w2.heap.size = v := ⟨_, rfl⟩
  obtain ⟨w3, hw3⟩ : ∃ v, w2.alloc (.cells #[.int .i64 o.n, .int .i64 o.epoch, .int .i64 o.kind, .int .i64 o.site, .int .i64 o.client, .int .i64 o.seq, .string o.name, .int .i64 o.size, .slice A n c] 38) = v := ⟨_, rfl⟩
  have hk3 : Kp No w2 w3 := by rw [← hw3]; exact (Kp.refl _ _).alloc _
  have hbz : Blk w3 z 38 [.int .i64 o.n, .int .i64 o.epoch, .int .i64 o.kind, .int .i64 o.site, .int .i64 o.client, .int .i64 o.seq, .string o.name, .int .i64 o.size, .slice A n c] := by rw [← hw3, ← hz]; exact Blk.new w2 _ _
  try rw [hw3]
  try rw [hz]
  have hby := HBY.out.kept (HK2a.out.trans' hk3) (fun z => z)
  have hbx := HBX.out.kept (HK2a.out.trans' hk3) (fun z => z)
  have y0 : w3.cell? ⟨y, 0, none⟩ = some _ := Blk.cell hby rfl
  have x5 : w3.cell? ⟨x, 5, none⟩ = some _ := Blk.cell hbx rfl
  rw [HK4.out] at y0
  have HLD := Lib.hid (run_load_op hbz)
  have HK3 := Lib.hid (HK2.out.trans' hk3)
  have HK3a := Lib.hid hk3
  clear hby hbx hbz hk3 hw3 hz hl y3
  obtain ⟨TB, hTB⟩ : ∃ TB, (pathM M p).isSome = TB := ⟨_, rfl⟩
  have HTB := Lib.hid hTB
  rw [hTB]
  clear hTB
  cases TB
  case false =>
    have hR : R = 51 := by rw [← HR.out]; unfold judge4; rw [if_pos HTB.out]
    subst hR
    go_wp2_with fail
    go_ret
    exact ⟨rfl, HK3.out⟩
  case true =>
    have HR2 : Hid (R = match mget a.name (liveL1 (pathD M p)) with
      | none => 200
      | some o => if putOk M o = true then 0 else 200) := Lib.hid (by rw [← HR.out]; unfold judge4; rw [if_neg (by rw [HTB.out]; simp)])
    cases IS
    case false =>
      have hR : R = 200 := by
        rcases HIS.out with h | ⟨_, h⟩
        · cases h.1
        · rw [HR2.out, h]
      subst hR
      have HD := fun w => Lib.hid (m_denied false w)
      go_wp2_with fail
      refine (HD _).out.mono ?_
      rintro e w4 ⟨rfl, hk4⟩
      have HK5 := Lib.hid (HK3.out.trans' hk4)
      clear hk4
      go_wp2_with fail
      go_ret
      exact ⟨rfl, HK5.out⟩
    case true =>
      obtain ⟨hg, rfl, hr⟩ : mget a.name (liveL1 (pathD M p)) = some o ∧ n = o.hashes.length ∧ Rp.str.slice.R w2 (fun k => wa.heap.size ≤ k ∧ k ≠ b) [.slice A n c] o.hashes := by
        rcases HIS.out with h | h
        · exact h.2
        · cases h.1
      have hR : R = if putOk M o = true then 0 else 200 := by rw [HR2.out, hg]
      obtain ⟨Q, hQ⟩ : ∃ Q, putOk M o = Q := ⟨_, rfl⟩
      rw [hQ] at hR
      have hput := m_put0 o A c _ m M F w3 (HM.out.keptNo HK3.out) (Rp.str.slice.keptNo hr HK3a.out)
      have hput2 : Calls Try.prog 62 #[.pointer (some ⟨m, 0, none⟩), opV o (.slice A o.hashes.length c), .string ⟨#[]⟩] w3 fun e w' => e = .returned (.bool Q) ∧ Kp No w3 w' := by rw [← hQ]; exact hput
      have HPUT := Lib.hid hput2
      have HRR := Lib.hid hR
      clear hg hr hput hput2 hQ hR
      go_wp2_with (refine wpl_load (by first | rfl | go_simp) 38 _ rfl _ _ rfl HLD.out ?_; go_simp)
      refine HPUT.out.mono ?_
      rintro e w4 ⟨rfl, hk4⟩
      have HK5 := Lib.hid (HK3.out.trans' hk4)
      have hd := m_denied Q w4
      rw [← HRR.out] at hd
      have HD := Lib.hid hd
      clear hk4 y0 x5 hd
      go_wp2_with fail
      refine HD.out.mono ?_
      rintro e w5 ⟨rfl, hk5⟩
      have HK6 := Lib.hid (HK5.out.trans' hk5)
      clear hk5
      go_wp2_with fail
      go_ret
      exact ⟨rfl, HK6.out⟩
end

section
open Go.RowKit Go.ChangeShapes Go.WideShapes Go.ChangeAt

theorem row_lined : ∀ {l : List OpL} {n e s : Int}, rowGo n e s l = true → ∀ a ∈ linedL (n, e) l, a.an = a.op.n - 1 ∧ n + 1 ≤ a.op.n ∧ a.op.n ≤ n + (l.length : Int) ∧ a.op ∈ l
  | [], _, _, _, _, a, ha => by simp [linedL] at ha
  | o :: l, n, e, s, h, a, ha => by
    unfold rowGo at h
    rw [Bool.and_eq_true, decide_eq_true_iff] at h
    obtain ⟨h1, h2⟩ := h
    have hn : o.n = n + 1 := h1.2.1
    simp only [List.length_cons]
    unfold linedL at ha
    rcases List.mem_cons.1 ha with rfl | ha
    · refine ⟨?_, ?_, ?_, List.mem_cons_self⟩
      · show n = o.n - 1; omega
      · show n + 1 ≤ o.n; omega
      · show o.n ≤ _; omega
    · obtain ⟨h3, h4, h5, h6⟩ := row_lined h2 a ha
      exact ⟨h3, by omega, by omega, List.mem_cons_of_mem _ h6⟩
theorem OkM.putAll_ : ∀ {m : List LineL} {M : MV}, OkM M → (∀ a ∈ m, a.an = a.op.n - 1 ∧ 1 ≤ a.op.n ∧ a.op.n ≤ 1000000 ∧ a.op.hashes.length ≤ 1000000) → OkM { M with lines := putAll M.lines m }
  | [], M, h, _ => h
  | a :: m, M, h, hm => by
    have ha := hm a List.mem_cons_self
    have h1 : OkM { M with lines := mput a.place a M.lines } := by
      have hg : ∀ p l, mget p (mput a.place a M.lines) = some l → (p = a.place ∧ l = a) ∨ mget p M.lines = some l := fun p l hp => by
        rw [mget_put] at hp
        split at hp
        · rename_i e
          injection hp with hp
          exact .inl ⟨e, hp.symm⟩
        · exact .inr hp
      refine ⟨fun p l hp => ?_, fun p l hp => ?_, fun p l hp => ?_, fun p l hp => ?_⟩
      · rcases hg p l hp with ⟨rfl, rfl⟩ | hp
        · rfl
        · exact h.key p l hp
      · rcases hg p l hp with ⟨rfl, rfl⟩ | hp
        · exact ⟨ha.2.1, ha.2.2.1⟩
        · exact h.low p l hp
      · rcases hg p l hp with ⟨rfl, rfl⟩ | hp
        · exact ha.1
        · exact h.ahead p l hp
      · rcases hg p l hp with ⟨rfl, rfl⟩ | hp
        · exact ha.2.2.2
        · exact h.hashes p l hp
    exact OkM.putAll_ (m := m) (M := { M with lines := mput a.place a M.lines }) h1 (fun b hb => hm b (List.mem_cons_of_mem _ hb))
theorem OkM.see {M : MV} (h : OkM M) {l : List OpL} (hll : l.length ≤ 1000000) (hsm : ∀ o ∈ l, o.hashes.length ≤ 1000000) : OkM (seeL l M).2 := by
  unfold seeL
  split
  · exact h
  · split
    · exact h
    · rename_i hr _
      have hr2 : rowGo 0 0 (-1) l = true := by
        have : rowB 0 0 l = true := by simpa using hr
        unfold rowB at this
        exact (Bool.and_eq_true_iff.1 this).2
      exact OkM.putAll_ h (fun a ha => by
        obtain ⟨h1, h2, h3, h4⟩ := row_lined hr2 a ha
        exact ⟨h1, by omega, by omega, hsm _ h4⟩)
theorem OkM.new : OkM ⟨[], []⟩ := ⟨fun _ _ h => (by cases h), fun _ _ h => (by cases h), fun _ _ h => (by cases h), fun _ _ h => (by cases h)⟩
theorem OkM.asked {M : MV} (h : OkM M) (l : List AskL) : OkM { M with asks := l } := ⟨h.key, h.low, h.ahead, h.hashes⟩
/-- the operations of redoubtlaw26.awake -/
def opA : OpL := ⟨1, 1, 3, 0, 0, 0, ByteArray.empty, 0, []⟩
def opB : OpL := ⟨2, 1, 1, 0, 0, 1, ⟨#[97]⟩, 0, []⟩
def opC : OpL := ⟨2, 2, 3, 0, 0, 0, ByteArray.empty, 0, []⟩
def opD : OpL := ⟨2, 1, 1, 0, 0, 1, ⟨#[98]⟩, 0, []⟩
def askA : AskL := ⟨1, 0, 1, ⟨#[97]⟩, ByteArray.empty, 0, 0⟩
def M1 : MV := (seeL [opA, opB] ⟨[], []⟩).2
def M2 : MV := (seeL [opA, opC] M1).2
def M3 : MV := { M2 with asks := [askA] }
theorem see1 : (seeL [opA, opB] ⟨[], []⟩).1 = 0 := by decide +kernel
theorem see2 : (seeL [opA, opC] M1).1 = 0 := by decide +kernel
theorem see3 : seeL [opA, opD] M2 = (200, M2) := by
  unfold seeL
  rw [if_neg (by decide +kernel), if_pos (by decide +kernel)]
theorem see1' : (seeL [opA, opC] ⟨[], []⟩).1 = 0 := by decide +kernel
theorem see2' : (seeL [opA, opB] (seeL [opA, opC] ⟨[], []⟩).2).1 = 0 := by decide +kernel
theorem names_a : namesM M2 (2, 1) = [⟨#[97]⟩] := by decide +kernel
theorem path_a : (pathM M2 (2, 1)).isSome = true := by decide +kernel
theorem path_b : (pathM M2 (3, 1)).isSome = false := by decide +kernel
theorem judge_a : judge4 M3 (2, 1) ⟨#[97]⟩ = 0 := by decide +kernel
theorem judge_b : judge4 M3 (2, 2) ⟨#[97]⟩ = 200 := by decide +kernel
end

section
open Go.RowKit Go.ChangeShapes Go.WideShapes Go.ChangeAt

/-- all of one model's lines are the other's -/
def SubM (M A : MV) : Prop := ∀ p x, mget p M.lines = some x → mget p A.lines = some x
/-- a row's lines are there -/
def HasM (M : MV) (l : List OpL) : Prop := ∀ a ∈ linedL (0, 0) l, mget a.place M.lines = some a
theorem SubM.refl (M : MV) : SubM M M := fun _ _ h => h
theorem SubM.trans {M A B : MV} (h : SubM M A) (h2 : SubM A B) : SubM M B := fun p x hx => h2 p x (h p x hx)
theorem HasM.sub {M A : MV} {l : List OpL} (h : HasM M l) (hs : SubM M A) : HasM A l := fun a ha => hs _ _ (h a ha)
theorem mget_putAll_not : ∀ {m : List LineL} {ls : List ((Int × Int) × LineL)} {p : Int × Int}, (∀ a ∈ m, p ≠ a.place) → mget p (putAll ls m) = mget p ls
  | [], _, _, _ => rfl
  | a :: m, ls, p, h => by
    show mget p (putAll (mput a.place a ls) m) = _
    rw [mget_putAll_not (fun b hb => h b (List.mem_cons_of_mem _ hb)), mget_put, if_neg (h a List.mem_cons_self)]
theorem mget_putAll_mem : ∀ {m : List LineL} {ls : List ((Int × Int) × LineL)} {a : LineL}, m.Pairwise (fun x y => x.place ≠ y.place) → a ∈ m → mget a.place (putAll ls m) = some a
  | b :: m, ls, a, hp, h => by
    have hp2 := List.pairwise_cons.1 hp
    show mget a.place (putAll (mput b.place b ls) m) = _
    rcases List.mem_cons.1 h with rfl | h
    · rw [mget_putAll_not (fun c hc => hp2.1 c hc), mget_put, if_pos rfl]
    · exact mget_putAll_mem hp2.2 h
theorem row_places : ∀ {l : List OpL} {n e s : Int}, rowGo n e s l = true → (linedL (n, e) l).Pairwise (fun x y => x.place ≠ y.place)
  | [], _, _, _, _ => by unfold linedL; exact List.Pairwise.nil
  | o :: l, n, e, s, h => by
    unfold rowGo at h
    rw [Bool.and_eq_true, decide_eq_true_iff] at h
    unfold linedL
    refine List.pairwise_cons.2 ⟨fun b hb => ?_, row_places h.2⟩
    obtain ⟨_, h3, _, _⟩ := row_lined h.2 b hb
    intro e1
    have e2 : o.n = b.op.n := congrArg Prod.fst e1
    omega
theorem eqP_line {a b : LineL} (hp : a.place = b.place) (h1 : (a.an, a.ae) = (b.an, b.ae)) (h2 : EqP a.op b.op) : a = b := by
  obtain ⟨⟨n, e, k, s, c, q, nm, sz, hs⟩, an, ae⟩ := a
  obtain ⟨⟨n2, e2, k2, s2, c2, q2, nm2, sz2, hs2⟩, an2, ae2⟩ := b
  unfold LineL.place at hp
  unfold EqP at h2
  simp only [Prod.mk.injEq] at hp h1 h2
  obtain ⟨rfl, rfl⟩ := hp
  obtain ⟨rfl, rfl⟩ := h1
  obtain ⟨rfl, rfl, rfl, rfl, rfl, rfl, rfl⟩ := h2
  rfl
theorem row_go {l : List OpL} (h : rowB 0 0 l = true) : rowGo 0 0 (-1) l = true := by
  unfold rowB at h
  exact (Bool.and_eq_true_iff.1 h).2
/-- what is let in -/
theorem see_ok {M : MV} {l : List OpL} (hok : OkM M) (h : (seeL l M).1 = 0) :
    rowB 0 0 l = true ∧ SubM M (seeL l M).2 ∧ HasM (seeL l M).2 l ∧ ∀ p x, mget p (seeL l M).2.lines = some x → mget p M.lines = some x ∨ (p = x.place ∧ x ∈ linedL (0, 0) l) := by
  unfold seeL at h ⊢
  split at h
  · cases h
  rename_i hr
  have hr : rowB 0 0 l = true := by simpa using hr
  split at h
  · cases h
  rename_i hc
  rw [if_neg (by rw [hr]; simp), if_neg hc]
  have hc2 : ∀ a ∈ linedL (0, 0) l, clash M.lines a = false := fun a ha => by
    cases hq : clash M.lines a with
    | false => rfl
    | true => exact absurd (List.any_eq_true.2 ⟨a, ha, hq⟩) hc
  have hpw := row_places (row_go hr)
  have hhas : ∀ a ∈ linedL (0, 0) l, mget a.place (putAll M.lines (linedL (0, 0) l)) = some a := fun a ha => mget_putAll_mem hpw ha
  have hwas : ∀ a ∈ linedL (0, 0) l, ∀ x, mget a.place M.lines = some x → x = a := fun a ha x hx => by
    have h1 := hc2 a ha
    unfold clash at h1
    rw [hx] at h1
    simp only [Bool.not_eq_false', Bool.and_eq_true, decide_eq_true_iff] at h1
    exact eqP_line (hok.key _ _ hx).symm h1.1 h1.2
  refine ⟨hr, fun p x hx => ?_, hhas, fun p x hx => ?_⟩
  · by_cases hm : ∃ a ∈ linedL (0, 0) l, p = a.place
    · obtain ⟨a, ha, rfl⟩ := hm
      rw [hwas a ha x hx]
      exact hhas a ha
    · show mget p (putAll M.lines (linedL (0, 0) l)) = _
      rw [mget_putAll_not (fun a ha e => hm ⟨a, ha, e⟩)]
      exact hx
  · by_cases hm : ∃ a ∈ linedL (0, 0) l, p = a.place
    · obtain ⟨a, ha, rfl⟩ := hm
      have hx2 : mget a.place (putAll M.lines (linedL (0, 0) l)) = some x := hx
      rw [hhas a ha] at hx2
      injection hx2 with hx2
      subst hx2
      exact .inr ⟨rfl, ha⟩
    · have hx2 : mget p (putAll M.lines (linedL (0, 0) l)) = some x := hx
      rw [mget_putAll_not (fun a ha e => hm ⟨a, ha, e⟩)] at hx2
      exact .inl hx2
/-- what fits into one tree is let in -/
theorem see_fits {M A : MV} {l : List OpL} (hr : rowB 0 0 l = true) (hs : SubM M A) (hh : HasM A l) : (seeL l M).1 = 0 := by
  unfold seeL
  rw [if_neg (by rw [hr]; simp)]
  have hc : ¬ (linedL (0, 0) l).any (clash M.lines) = true := fun h => by
    obtain ⟨a, ha, h1⟩ := List.any_eq_true.1 h
    unfold clash at h1
    cases hx : mget a.place M.lines with
    | none => rw [hx] at h1; cases h1
    | some x =>
      rw [hx] at h1
      have h2 := hs _ _ hx
      rw [hh a ha] at h2
      injection h2 with h2
      subst h2
      have h3 : decide (EqP a.op a.op) = true := decide_eq_true ⟨rfl, rfl, rfl, rfl, rfl, rfl, rfl⟩
      simp [h3] at h1
  rw [if_neg hc]
/-- a tree that holds a model and the row still holds it when the row was seen -/
theorem see_in {M A : MV} {l : List OpL} (hok : OkM M) (hr : rowB 0 0 l = true) (hs : SubM M A) (hh : HasM A l) : SubM (seeL l M).2 A := by
  intro p x hx
  obtain ⟨_, _, h3, h4⟩ := see_ok hok (see_fits hr hs hh)
  rcases h4 p x hx with h | ⟨rfl, h⟩
  · exact hs _ _ h
  · exact hh x h
/-- each line of a model stands in a row that the model has -/
def FromM (M : MV) (rows : List (List OpL)) : Prop := ∀ p x, mget p M.lines = some x → ∃ l ∈ rows, rowB 0 0 l = true ∧ HasM M l ∧ p = x.place ∧ x ∈ linedL (0, 0) l
theorem FromM.nil : FromM ⟨[], []⟩ [] := fun p x h => by cases h
theorem FromM.see {M : MV} {rows : List (List OpL)} {l : List OpL} (hok : OkM M) (h : FromM M rows) (hs : (seeL l M).1 = 0) : FromM (seeL l M).2 (rows ++ [l]) := by
  obtain ⟨h1, h2, h3, h4⟩ := see_ok hok hs
  intro p x hx
  rcases h4 p x hx with h5 | ⟨h5, h6⟩
  · obtain ⟨k, hk, hr, hh, hp, hm⟩ := h p x h5
    exact ⟨k, List.mem_append_left _ hk, hr, hh.sub h2, hp, hm⟩
  · exact ⟨l, List.mem_append_right _ List.mem_cons_self, h1, h3, h5, h6⟩
theorem FromM.more {M : MV} {rows rows' : List (List OpL)} (h : FromM M rows) (hs : ∀ l ∈ rows, l ∈ rows') : FromM M rows' := fun p x hx => by
  obtain ⟨k, hk, hr⟩ := h p x hx
  exact ⟨k, hs k hk, hr⟩
theorem linedL_get : ∀ {l : List OpL} {p : Int × Int} {i : Nat} {o : OpL}, l[i]? = some o → (linedL p l)[i]? = some ⟨o, (lastP p (l.take i)).1, (lastP p (l.take i)).2⟩
  | [], _, _, _, h => by simp at h
  | x :: l, p, 0, o, h => by
    injection h with h
    subst h
    rfl
  | x :: l, p, i + 1, o, h => by
    have h2 := linedL_get (p := (x.n, x.epoch)) (i := i) (o := o) (l := l) (by simpa using h)
    show (linedL (x.n, x.epoch) l)[i]? = _
    rw [h2]
    congr 1
    have : lastP (x.n, x.epoch) (l.take i) = lastP p ((x :: l).take (i + 1)) := by
      rw [List.take_succ_cons]
      unfold lastP
      cases hl : l.take i with
      | nil => rfl
      | cons y t =>
        cases hz : (y :: t).getLast? with
        | none => simp at hz
        | some z => simp only [List.getLast?_cons_cons, hz]
    rw [this]
theorem take_snocM {l : List OpL} {i : Nat} {o : OpL} (h : l[i]? = some o) : l.take (i + 1) = l.take i ++ [o] := by
  rw [List.take_add_one, h]; rfl
theorem row_low {l : List OpL} (h : rowB 0 0 l = true) {i : Nat} {o : OpL} (hi : l[i]? = some o) : o.n = (i : Int) + 1 := by
  have : ∀ {l : List OpL} {n e s : Int} {i : Nat} {o : OpL}, rowGo n e s l = true → l[i]? = some o → o.n = n + i + 1 := by
    intro l
    induction l with
    | nil => intro n e s i o _ hi; simp at hi
    | cons x l ih =>
      intro n e s i o h hi
      unfold rowGo at h
      rw [Bool.and_eq_true, decide_eq_true_iff] at h
      have hn : x.n = n + 1 := h.1.2.1
      cases i with
      | zero => injection hi with hi; subst hi; simpa using hn
      | succ i =>
        have := ih h.2 (by simpa using hi)
        push_cast
        omega
  have := this (row_go h) hi
  omega
/-- the path to a place of a row that is there -/
theorem path_has {M : MV} (hok : OkM M) {l : List OpL} (hr : rowB 0 0 l = true) (hh : HasM M l) : ∀ i, i ≤ l.length → pathM M (lastP (0, 0) (l.take i)) = some (l.take i)
  | 0, _ => by
    unfold pathM
    show (pathL M.lines _ (0, 0)).map _ = _
    rw [pathL_zero]
    simp
  | i + 1, hi => by
    have ih := path_has hok hr hh i (by omega)
    obtain ⟨o, ho⟩ : ∃ o, l[i]? = some o := ⟨_, List.getElem?_eq_getElem (by omega)⟩
    have hg := linedL_get (p := (0, 0)) ho
    have hm := hh _ (List.mem_of_getElem? hg)
    have hn := row_low hr ho
    rw [take_snocM ho, lastP_snoc]
    have hne : (o.n, o.epoch) ≠ ((0 : Int), (0 : Int)) := fun e => by
      have : o.n = 0 := congrArg Prod.fst e
      omega
    unfold pathM
    rw [pathL_some hok hne hm]
    unfold pathM at ih
    simp only at *
    cases hq : pathL M.lines (lastP (0, 0) (List.take i l)).1.toNat (lastP (0, 0) (List.take i l)) with
    | none => rw [hq] at ih; cases ih
    | some r =>
      rw [hq] at ih
      simp only [Option.map_some, Option.some.injEq] at ih ⊢
      show (o :: r).reverse = _
      rw [List.reverse_cons, ih]
theorem rowGo_takeM : ∀ {l : List OpL} {n e s : Int} (i : Nat), rowGo n e s l = true → rowGo n e s (l.take i) = true
  | [], _, _, _, i, _ => by simp [rowGo]
  | x :: l, n, e, s, 0, _ => by simp [rowGo]
  | x :: l, n, e, s, i + 1, h => by
    unfold rowGo at h
    rw [Bool.and_eq_true] at h
    rw [List.take_succ_cons]
    unfold rowGo
    rw [Bool.and_eq_true]
    exact ⟨h.1, rowGo_takeM i h.2⟩
theorem rowB_take {l : List OpL} (i : Nat) (h : rowB 0 0 l = true) : rowB 0 0 (l.take i) = true := by
  unfold rowB at h ⊢
  rw [Bool.and_eq_true] at h ⊢
  exact ⟨h.1, rowGo_takeM i h.2⟩
/-- what a path is -/
theorem path_from {M : MV} (hok : OkM M) {rows : List (List OpL)} (h : FromM M rows) {p : Int × Int} {P : List OpL} (hp : pathM M p = some P) : P = [] ∨ ∃ l ∈ rows, ∃ i, i ≤ l.length ∧ rowB 0 0 l = true ∧ P = l.take i := by
  by_cases h0 : p = (0, 0)
  · subst h0
    unfold pathM at hp
    rw [pathL_zero] at hp
    simp at hp
    exact .inl hp
  · cases hx : mget p M.lines with
    | none =>
      unfold pathM at hp
      rw [pathL_none h0 hx] at hp
      cases hp
    | some x =>
      obtain ⟨l, hl, hr, hh, rfl, hm⟩ := h p x hx
      obtain ⟨i, hi⟩ := List.getElem?_of_mem hm
      have hil : i < l.length := by have := (List.getElem?_eq_some_iff.1 hi).1; rw [linedL_length] at this; exact this
      obtain ⟨o, ho⟩ : ∃ o, l[i]? = some o := ⟨_, List.getElem?_eq_getElem hil⟩
      rw [linedL_get ho] at hi
      injection hi with hi
      have h2 := path_has hok hr hh (i + 1) (by omega)
      rw [take_snocM ho, lastP_snoc] at h2
      have h3 : x.place = (o.n, o.epoch) := by rw [← hi]; rfl
      rw [h3, h2] at hp
      injection hp with hp
      exact .inr ⟨l, hl, i + 1, by omega, hr, by rw [take_snocM ho]; exact hp.symm⟩
theorem path_row {M : MV} (hok : OkM M) {rows : List (List OpL)} (h : FromM M rows) {p : Int × Int} {P : List OpL} (hp : pathM M p = some P) : rowB 0 0 P = true := by
  rcases path_from hok h hp with rfl | ⟨l, _, i, _, hr, rfl⟩
  · rfl
  · exact rowB_take i hr
theorem pathL_congr {A B : List ((Int × Int) × LineL)} (h : ∀ p, mget p A = mget p B) : ∀ f p, pathL A f p = pathL B f p
  | 0, p => rfl
  | f + 1, p => by
    unfold pathL
    rw [h p]
    split
    · rfl
    · split
      · rfl
      · rw [pathL_congr h f]
theorem path_same {A B : MV} (h1 : SubM A B) (h2 : SubM B A) (p : Int × Int) : pathM A p = pathM B p := by
  unfold pathM
  rw [pathL_congr (fun q => ?_)]
  cases ha : mget q A.lines with
  | some x => exact (h1 q x ha).symm
  | none =>
    cases hb : mget q B.lines with
    | none => rfl
    | some y => rw [h2 q y hb] at ha; cases ha
/-- many rows, one behind the other -/
def seeAll : List (List OpL) → MV → MV
  | [], M => M
  | l :: r, M => seeAll r (seeL l M).2
end

section
open Go.RowKit Go.ChangeShapes Go.WideShapes Go.ChangeAt

/-- two operations without hashes, as a slice literal -/
theorem run_lit2 (w : World) (a b : OpL) : (Instr.buildSlice 42 2 #[(0, opV a (.slice none 0 0)), (1, opV b (.slice none 0 0))]).run Try.prog w = .ok (.slice (some ⟨w.heap.size, 0, none⟩) 2 2) (w.alloc (.cells (a.cells (.slice none 0 0) ++ b.cells (.slice none 0 0)).toArray 38)) := by
  unfold opV OpL.cells
  go_simp
theorem lit2_read (w : World) (a b : OpL) (ha : a.nums) (hb : b.nums) (ha2 : a.hashes = []) (hb2 : b.hashes = []) : Rp.opl.slice.R (w.alloc (.cells (a.cells (.slice none 0 0) ++ b.cells (.slice none 0 0)).toArray 38)) (fun k => k = w.heap.size) [.slice (some ⟨w.heap.size, 0, none⟩) 2 2] [a, b] := by
  have hbk := Blk.new w (a.cells (.slice none 0 0) ++ b.cells (.slice none 0 0)) 38
  refine ⟨_, _, rfl, Nat.le_refl _, by unfold maxLen; simp, fun _ => ⟨_, rfl, rfl, fun i x hi => ?_⟩⟩
  match i, hi with
  | 0, hi =>
    injection hi with hi
    subst hi
    refine ⟨a.cells (.slice none 0 0), fun j u hu => ?_, _, rfl, ha, by rw [ha2]; exact Rp.none_ _ _ _⟩
    rw [Addr.add_lit, Addr.add_lit]
    have hj := (List.getElem?_eq_some_iff.1 hu).1
    have := hbk.cell (i := j) (u := u) (by rw [List.getElem?_append_left hj]; exact hu)
    simpa using this
  | 1, hi =>
    injection hi with hi
    subst hi
    refine ⟨b.cells (.slice none 0 0), fun j u hu => ?_, _, rfl, hb, by rw [hb2]; exact Rp.none_ _ _ _⟩
    rw [Addr.add_lit, Addr.add_lit]
    have hl : (a.cells (.slice none 0 0)).length = 9 := rfl
    have := hbk.cell (i := 9 + j) (u := u) (by rw [List.getElem?_append_right (by omega), hl, Nat.add_sub_cancel_left]; exact hu)
    have h9 : Rp.opl.size = 9 := rfl
    simpa [h9] using this
  | i + 2, hi => simp at hi
theorem opA_nums : opA.nums := ⟨rfl, rfl, rfl, rfl, rfl, rfl, by decide +kernel, rfl⟩
theorem opB_nums : opB.nums := ⟨rfl, rfl, rfl, rfl, rfl, rfl, by decide +kernel, rfl⟩
theorem opC_nums : opC.nums := ⟨rfl, rfl, rfl, rfl, rfl, rfl, by decide +kernel, rfl⟩
theorem opD_nums : opD.nums := ⟨rfl, rfl, rfl, rfl, rfl, rfl, by decide +kernel, rfl⟩
/-- See of two operations that lie in a block -/
theorem see_two (a b : OpL) (ha2 : a.hashes = []) (hb2 : b.hashes = []) (g : Nat) (m : Nat) (M : MV) (F : Nat → Prop) (w : World) (hM : MAt w m M F) (hok : OkM M) (hr : Rp.opl.slice.R w (fun k => k = g) [.slice (some ⟨g, 0, none⟩) 2 2] [a, b]) :
    Calls Try.prog 17 #[.pointer (some ⟨m, 0, none⟩), .slice (some ⟨g, 0, none⟩) 2 2] w fun e w' => e = .returned (.int .i64 (seeL [a, b] M).1) ∧ ∃ F', MAt w' m (seeL [a, b] M).2 F' ∧ Upd F w w' F' :=
  m_see [a, b] (some ⟨g, 0, none⟩) 2 _ m M F w hM hok hr (by simp) (fun o ho => by
    simp only [List.mem_cons, List.not_mem_nil, or_false] at ho
    rcases ho with rfl | rfl
    · rw [ha2]; simp
    · rw [hb2]; simp)
theorem see2z : (seeL [opA, opC] (seeL [opA, opB] ⟨[], []⟩).2).1 = 0 := see2
def askR : AskL := ⟨4, 0, 0, ⟨#[97]⟩, ByteArray.empty, 0, 0⟩
theorem seeL_asks (l : List OpL) (M : MV) : (seeL l M).2.asks = M.asks := by
  unfold seeL
  split
  · rfl
  · split <;> rfl
theorem asked3 : (if askA.kind = 1 then { M2 with asks := M2.asks ++ [askA] } else M2) = M3 := by
  rw [if_pos (show askA.kind = 1 from rfl)]
  have h : M2.asks = [] := by unfold M2 M1; rw [seeL_asks, seeL_asks]
  unfold M3
  rw [h]
  rfl
set_option maxRecDepth 100000 in
set_option maxHeartbeats 40000000 in
theorem h_awake26 (w : World) : Calls Try.prog 14 #[] w fun e w' => e = .returned (.bool true) ∧ Kp No w w' := by
  have HN := Lib.hid (m_new w)
  go_enter Try.func14, Try.ntmps14
  go_wp2_with fail
  refine HN.out.mono ?_
  rintro e w1 ⟨m, F, rfl, hm, hf, hk1⟩
  have HM1 := Lib.hid hm
  have HF1 := Lib.hid hf
  have HK1 := Lib.hid hk1
  clear hm hf hk1 HN
  go_upto_region 6 with fail
  obtain ⟨y2, hy2⟩ : ∃ v, w1.heap.size = v := ⟨_, rfl⟩
  obtain ⟨y3, hy3⟩ : ∃ v, w1.heap.size + 1 = v := ⟨_, rfl⟩
  obtain ⟨wA, hwA⟩ : ∃ v, (w1.alloc (.cells #[.int .i64 1, .int .i64 1, .int .i64 3, .int .i64 0, .int .i64 0, .int .i64 0, .string { data := #[] }, .int .i64 0, .slice none 0 0] 38)).alloc (.cells #[.int .i64 2, .int .i64 1, .int .i64 1, .int .i64 0, .int .i64 0, .int .i64 1, .string { data := #[97] }, .int .i64 0, .slice none 0 0] 38) = v := ⟨_, rfl⟩
  have hkA : Kp No w1 wA := by rw [← hwA]; exact ((Kp.refl _ _).alloc _).alloc _
  have HBA : Hid (Blk wA y2 38 [.int .i64 1, .int .i64 1, .int .i64 3, .int .i64 0, .int .i64 0, .int .i64 0, .string { data := #[] }, .int .i64 0, .slice none 0 0]) := Lib.hid (by rw [← hwA, ← hy2]; exact (Blk.new w1 _ _).kept (S := No) ((Kp.refl _ _).alloc _) (fun x => x))
  have HBB : Hid (Blk wA y3 38 [.int .i64 2, .int .i64 1, .int .i64 1, .int .i64 0, .int .i64 0, .int .i64 1, .string { data := #[97] }, .int .i64 0, .slice none 0 0]) := Lib.hid (by
    have h := Blk.new (w1.alloc (.cells #[.int .i64 1, .int .i64 1, .int .i64 3, .int .i64 0, .int .i64 0, .int .i64 0, .string { data := #[] }, .int .i64 0, .slice none 0 0] 38)) [.int .i64 2, .int .i64 1, .int .i64 1, .int .i64 0, .int .i64 0, .int .i64 1, .string { data := #[97] }, .int .i64 0, .slice none 0 0] 38
    rw [← hwA, ← hy3]
    simpa using h)
  rw [hwA, hy3, hy2]
  have HMA := Lib.hid (HM1.out.keptNo hkA)
  have HFA : Hid (∀ k, F k → w.heap.size ≤ k ∧ k ≠ y2 ∧ k ≠ y3) := Lib.hid (fun k hk => ⟨HF1.out k hk, by have := HM1.out.lt hk; omega, by have := HM1.out.lt hk; omega⟩)
  have HKA := Lib.hid (HK1.out.trans' hkA)
  have HYL : Hid (w.heap.size ≤ y2 ∧ w.heap.size ≤ y3) := Lib.hid (by have := HK1.out.size; omega)
  have HYN : Hid (y2 ≠ y3) := Lib.hid (by omega)
  clear hkA hwA hy2 hy3 HM1 HF1 HK1
  go_cut [4, 5] (fun av bv wx => av = .int .i64 0 ∧ bv = .int .i64 0 ∧ ∃ F', Hid (MAt wx m M2 F') ∧ Hid (∀ k, F' k → w.heap.size ≤ k ∧ k ≠ y2 ∧ k ≠ y3) ∧ Hid (Kp No w wx) ∧ Hid (Blk wx y2 38 [.int .i64 1, .int .i64 1, .int .i64 3, .int .i64 0, .int .i64 0, .int .i64 0, .string { data := #[] }, .int .i64 0, .slice none 0 0]) ∧ Hid (Blk wx y3 38 [.int .i64 2, .int .i64 1, .int .i64 1, .int .i64 0, .int .i64 0, .int .i64 1, .string { data := #[97] }, .int .i64 0, .slice none 0 0]))
  case first =>
    obtain ⟨wd, hwd⟩ : ∃ v, wA.drew = v := ⟨_, rfl⟩
    have hkd : Kp No wA wd := by rw [← hwd]; exact (Kp.refl _ _).drew
    have HBA := Lib.hid (HBA.out.kept hkd (fun z => z))
    have HBB := Lib.hid (HBB.out.kept hkd (fun z => z))
    have HMA := Lib.hid (HMA.out.keptNo hkd)
    have HKA := Lib.hid (HKA.out.trans' hkd)
    have a0 : wd.cell? ⟨y2, 0, none⟩ = some _ := Blk.cell HBA.out rfl
    have a1 : wd.cell? ⟨y2, 1, none⟩ = some _ := Blk.cell HBA.out rfl
    have a2 : wd.cell? ⟨y2, 2, none⟩ = some _ := Blk.cell HBA.out rfl
    have a3 : wd.cell? ⟨y2, 3, none⟩ = some _ := Blk.cell HBA.out rfl
    have a4 : wd.cell? ⟨y2, 4, none⟩ = some _ := Blk.cell HBA.out rfl
    have a5 : wd.cell? ⟨y2, 5, none⟩ = some _ := Blk.cell HBA.out rfl
    have a6 : wd.cell? ⟨y2, 6, none⟩ = some _ := Blk.cell HBA.out rfl
    have a7 : wd.cell? ⟨y2, 7, none⟩ = some _ := Blk.cell HBA.out rfl
    have a8 : wd.cell? ⟨y2, 8, none⟩ = some _ := Blk.cell HBA.out rfl
    have b0 : wd.cell? ⟨y3, 0, none⟩ = some _ := Blk.cell HBB.out rfl
    have b1 : wd.cell? ⟨y3, 1, none⟩ = some _ := Blk.cell HBB.out rfl
    have b2 : wd.cell? ⟨y3, 2, none⟩ = some _ := Blk.cell HBB.out rfl
    have b3 : wd.cell? ⟨y3, 3, none⟩ = some _ := Blk.cell HBB.out rfl
    have b4 : wd.cell? ⟨y3, 4, none⟩ = some _ := Blk.cell HBB.out rfl
    have b5 : wd.cell? ⟨y3, 5, none⟩ = some _ := Blk.cell HBB.out rfl
    have b6 : wd.cell? ⟨y3, 6, none⟩ = some _ := Blk.cell HBB.out rfl
    have b7 : wd.cell? ⟨y3, 7, none⟩ = some _ := Blk.cell HBB.out rfl
    have b8 : wd.cell? ⟨y3, 8, none⟩ = some _ := Blk.cell HBB.out rfl
    refine Reg.wp_region_tree (.look 0 (.look 1 (.look 2 (.look 5 (.look 6 (.look 7 (.two 3 [6, 7] (.two 4 [6, 7] (.one 8 [] (.one 9 [] (.look 10 (.look 11 (.done))))) 8 [] (.one 4 [] (.one 9 [] (.look 10 (.look 11 (.done)))))) 8 [1, 2] (.one 3 [] (.one 4 [] (.one 9 [] (.look 10 (.look 11 (.done))))))))))))) [3, 4, 8, 9] rfl (by kernel_rfl) ?_
    rw [hwd]
    clear hwd hkd
    repeat (first | (refine Reg.lookT rfl rfl rfl (by go_simp; rfl) rfl ?_; go_simp))
    refine Reg.twoT rfl rfl ?_ ?_
    · skip
      obtain ⟨g1, hg1⟩ : ∃ v, wd.heap.size = v := ⟨_, rfl⟩
      obtain ⟨w3, hw3⟩ : ∃ v, wd.alloc (.cells #[.int .i64 1, .int .i64 1, .int .i64 3, .int .i64 0, .int .i64 0, .int .i64 0, .string { data := #[] }, .int .i64 0, .slice none 0 0, .int .i64 2, .int .i64 1, .int .i64 1, .int .i64 0, .int .i64 0, .int .i64 1, .string { data := #[97] }, .int .i64 0, .slice none 0 0] 38) = v := ⟨_, rfl⟩
      have hkv : Kp No wd w3 := by rw [← hw3]; exact (Kp.refl _ _).alloc _
      have HR1 : Hid (Rp.opl.slice.R w3 (fun k => k = g1) [.slice (some ⟨g1, 0, none⟩) 2 2] [opA, opB]) := Lib.hid (by
        have h := lit2_read wd opA opB opA_nums opB_nums rfl rfl
        rw [hg1] at h
        rw [← hw3]; exact h)
      have HG1 : Hid (∀ k, F k → k ≠ g1) := Lib.hid (fun k hk => by have := HMA.out.lt hk; omega)
      go_wp2_with fail
      clear hg1 hw3
      have HBA := Lib.hid (HBA.out.kept hkv (fun z => z))
      have HBB := Lib.hid (HBB.out.kept hkv (fun z => z))
      have HMA := Lib.hid (HMA.out.keptNo hkv)
      have HKA := Lib.hid (HKA.out.trans' hkv)
      clear a0 a1 a2 a3 a4 a5 a6 a7 a8 b0 b1 b2 b3 b4 b5 b6 b7 b8
      have a0 : w3.cell? ⟨y2, 0, none⟩ = some _ := Blk.cell HBA.out rfl
      have a1 : w3.cell? ⟨y2, 1, none⟩ = some _ := Blk.cell HBA.out rfl
      have a2 : w3.cell? ⟨y2, 2, none⟩ = some _ := Blk.cell HBA.out rfl
      have a3 : w3.cell? ⟨y2, 3, none⟩ = some _ := Blk.cell HBA.out rfl
      have a4 : w3.cell? ⟨y2, 4, none⟩ = some _ := Blk.cell HBA.out rfl
      have a5 : w3.cell? ⟨y2, 5, none⟩ = some _ := Blk.cell HBA.out rfl
      have a6 : w3.cell? ⟨y2, 6, none⟩ = some _ := Blk.cell HBA.out rfl
      have a7 : w3.cell? ⟨y2, 7, none⟩ = some _ := Blk.cell HBA.out rfl
      have a8 : w3.cell? ⟨y2, 8, none⟩ = some _ := Blk.cell HBA.out rfl
      have b0 : w3.cell? ⟨y3, 0, none⟩ = some _ := Blk.cell HBB.out rfl
      have b1 : w3.cell? ⟨y3, 1, none⟩ = some _ := Blk.cell HBB.out rfl
      have b2 : w3.cell? ⟨y3, 2, none⟩ = some _ := Blk.cell HBB.out rfl
      have b3 : w3.cell? ⟨y3, 3, none⟩ = some _ := Blk.cell HBB.out rfl
      have b4 : w3.cell? ⟨y3, 4, none⟩ = some _ := Blk.cell HBB.out rfl
      have b5 : w3.cell? ⟨y3, 5, none⟩ = some _ := Blk.cell HBB.out rfl
      have b6 : w3.cell? ⟨y3, 6, none⟩ = some _ := Blk.cell HBB.out rfl
      have b7 : w3.cell? ⟨y3, 7, none⟩ = some _ := Blk.cell HBB.out rfl
      have b8 : w3.cell? ⟨y3, 8, none⟩ = some _ := Blk.cell HBB.out rfl
      clear hkv
      (refine ⟨?anew, ?_⟩; case anew => ((repeat (refine Reg.anew_cons rfl rfl (fun _ => by go_simp) ?_)); exact Reg.anew_nil))
      repeat (first | (refine Reg.lookT rfl rfl rfl (by go_simp; rfl) rfl ?_; go_simp))
      refine Reg.twoT rfl rfl ?_ ?_
      · skip
        have hs := see_two opA opB rfl rfl _ m _ F w3 HMA.out OkM.new HR1.out
        rw [see1] at hs
        have HS := Lib.hid hs
        clear hs
        go_wp2_with fail
        refine HS.out.mono ?_
        rintro e w4 ⟨rfl, F1, hmn, hu⟩
        have HFN : Hid (∀ k, F1 k → w.heap.size ≤ k ∧ k ≠ y2 ∧ k ≠ y3) := Lib.hid (fun k hk => by
          rcases hu.foot k hk with h | h
          · exact HFA.out k h
          · have h1 := Blk.lt HBA.out
            have h2 := Blk.lt HBB.out
            have h3 := HKA.out.size
            exact ⟨by omega, by omega, by omega⟩)
        have HBA := Lib.hid (HBA.out.kept hu.kp (fun h => (HFA.out _ h).2.1 rfl))
        have HBB := Lib.hid (HBB.out.kept hu.kp (fun h => (HFA.out _ h).2.2 rfl))
        have HKA := Lib.hid (HKA.out.trans hu.kp (fun k hk h => by have := (HFA.out k h).1; omega))
        have HFA := HFN
        have HMA := Lib.hid hmn
        have HUK := Lib.hid hu.kp
        clear hmn hu HS HFN a0 a1 a2 a3 a4 a5 a6 a7 a8 b0 b1 b2 b3 b4 b5 b6 b7 b8
        have a0 : w4.cell? ⟨y2, 0, none⟩ = some _ := Blk.cell HBA.out rfl
        have a1 : w4.cell? ⟨y2, 1, none⟩ = some _ := Blk.cell HBA.out rfl
        have a2 : w4.cell? ⟨y2, 2, none⟩ = some _ := Blk.cell HBA.out rfl
        have a3 : w4.cell? ⟨y2, 3, none⟩ = some _ := Blk.cell HBA.out rfl
        have a4 : w4.cell? ⟨y2, 4, none⟩ = some _ := Blk.cell HBA.out rfl
        have a5 : w4.cell? ⟨y2, 5, none⟩ = some _ := Blk.cell HBA.out rfl
        have a6 : w4.cell? ⟨y2, 6, none⟩ = some _ := Blk.cell HBA.out rfl
        have a7 : w4.cell? ⟨y2, 7, none⟩ = some _ := Blk.cell HBA.out rfl
        have a8 : w4.cell? ⟨y2, 8, none⟩ = some _ := Blk.cell HBA.out rfl
        have b0 : w4.cell? ⟨y3, 0, none⟩ = some _ := Blk.cell HBB.out rfl
        have b1 : w4.cell? ⟨y3, 1, none⟩ = some _ := Blk.cell HBB.out rfl
        have b2 : w4.cell? ⟨y3, 2, none⟩ = some _ := Blk.cell HBB.out rfl
        have b3 : w4.cell? ⟨y3, 3, none⟩ = some _ := Blk.cell HBB.out rfl
        have b4 : w4.cell? ⟨y3, 4, none⟩ = some _ := Blk.cell HBB.out rfl
        have b5 : w4.cell? ⟨y3, 5, none⟩ = some _ := Blk.cell HBB.out rfl
        have b6 : w4.cell? ⟨y3, 6, none⟩ = some _ := Blk.cell HBB.out rfl
        have b7 : w4.cell? ⟨y3, 7, none⟩ = some _ := Blk.cell HBB.out rfl
        have b8 : w4.cell? ⟨y3, 8, none⟩ = some _ := Blk.cell HBB.out rfl
        go_wp2_with fail
        (refine ⟨?anew, ?_⟩; case anew => ((repeat (refine Reg.anew_cons rfl rfl (fun _ => by go_simp) ?_)); exact Reg.anew_nil))
        repeat (first | (refine Reg.lookT rfl rfl rfl (by go_simp; rfl) rfl ?_; go_simp))
        obtain ⟨g2, hg2⟩ : ∃ v, w4.heap.size = v := ⟨_, rfl⟩
        obtain ⟨w5, hw3⟩ : ∃ v, w4.alloc (.cells #[.int .i64 1, .int .i64 1, .int .i64 3, .int .i64 0, .int .i64 0, .int .i64 0, .string { data := #[] }, .int .i64 0, .slice none 0 0, .int .i64 2, .int .i64 2, .int .i64 3, .int .i64 0, .int .i64 0, .int .i64 0, .string { data := #[] }, .int .i64 0, .slice none 0 0] 38) = v := ⟨_, rfl⟩
        have hkv : Kp No w4 w5 := by rw [← hw3]; exact (Kp.refl _ _).alloc _
        have HR2 : Hid (Rp.opl.slice.R w5 (fun k => k = g2) [.slice (some ⟨g2, 0, none⟩) 2 2] [opA, opC]) := Lib.hid (by
          have h := lit2_read w4 opA opC opA_nums opC_nums rfl rfl
          rw [hg2] at h
          rw [← hw3]; exact h)
        have HG2 : Hid (∀ k, F1 k → k ≠ g2) := Lib.hid (fun k hk => by have := HMA.out.lt hk; omega)
        have HG2L : Hid (g2 < w5.heap.size) := Lib.hid (by rw [← hw3, ← hg2]; simp)
        refine Reg.oneT rfl ?_
        go_wp2_with fail
        clear hg2 hw3
        have HBA := Lib.hid (HBA.out.kept hkv (fun z => z))
        have HBB := Lib.hid (HBB.out.kept hkv (fun z => z))
        have HMA := Lib.hid (HMA.out.keptNo hkv)
        have HKA := Lib.hid (HKA.out.trans' hkv)
        clear a0 a1 a2 a3 a4 a5 a6 a7 a8 b0 b1 b2 b3 b4 b5 b6 b7 b8
        have a0 : w5.cell? ⟨y2, 0, none⟩ = some _ := Blk.cell HBA.out rfl
        have a1 : w5.cell? ⟨y2, 1, none⟩ = some _ := Blk.cell HBA.out rfl
        have a2 : w5.cell? ⟨y2, 2, none⟩ = some _ := Blk.cell HBA.out rfl
        have a3 : w5.cell? ⟨y2, 3, none⟩ = some _ := Blk.cell HBA.out rfl
        have a4 : w5.cell? ⟨y2, 4, none⟩ = some _ := Blk.cell HBA.out rfl
        have a5 : w5.cell? ⟨y2, 5, none⟩ = some _ := Blk.cell HBA.out rfl
        have a6 : w5.cell? ⟨y2, 6, none⟩ = some _ := Blk.cell HBA.out rfl
        have a7 : w5.cell? ⟨y2, 7, none⟩ = some _ := Blk.cell HBA.out rfl
        have a8 : w5.cell? ⟨y2, 8, none⟩ = some _ := Blk.cell HBA.out rfl
        have b0 : w5.cell? ⟨y3, 0, none⟩ = some _ := Blk.cell HBB.out rfl
        have b1 : w5.cell? ⟨y3, 1, none⟩ = some _ := Blk.cell HBB.out rfl
        have b2 : w5.cell? ⟨y3, 2, none⟩ = some _ := Blk.cell HBB.out rfl
        have b3 : w5.cell? ⟨y3, 3, none⟩ = some _ := Blk.cell HBB.out rfl
        have b4 : w5.cell? ⟨y3, 4, none⟩ = some _ := Blk.cell HBB.out rfl
        have b5 : w5.cell? ⟨y3, 5, none⟩ = some _ := Blk.cell HBB.out rfl
        have b6 : w5.cell? ⟨y3, 6, none⟩ = some _ := Blk.cell HBB.out rfl
        have b7 : w5.cell? ⟨y3, 7, none⟩ = some _ := Blk.cell HBB.out rfl
        have b8 : w5.cell? ⟨y3, 8, none⟩ = some _ := Blk.cell HBB.out rfl
        clear hkv
        (refine ⟨?anew, ?_⟩; case anew => ((repeat (refine Reg.anew_cons rfl rfl (fun _ => by go_simp) ?_)); exact Reg.anew_nil))
        repeat (first | (refine Reg.lookT rfl rfl rfl (by go_simp; rfl) rfl ?_; go_simp))
        refine Reg.oneT rfl ?_
        have hs := see_two opA opC rfl rfl _ m _ F1 w5 HMA.out (OkM.see OkM.new (by decide) (by decide)) HR2.out
        rw [see2z] at hs
        have HS := Lib.hid hs
        clear hs
        go_wp2_with fail
        refine HS.out.mono ?_
        rintro e w6 ⟨rfl, F2, hmn, hu⟩
        have HFN : Hid (∀ k, F2 k → w.heap.size ≤ k ∧ k ≠ y2 ∧ k ≠ y3) := Lib.hid (fun k hk => by
          rcases hu.foot k hk with h | h
          · exact HFA.out k h
          · have h1 := Blk.lt HBA.out
            have h2 := Blk.lt HBB.out
            have h3 := HKA.out.size
            exact ⟨by omega, by omega, by omega⟩)
        have HBA := Lib.hid (HBA.out.kept hu.kp (fun h => (HFA.out _ h).2.1 rfl))
        have HBB := Lib.hid (HBB.out.kept hu.kp (fun h => (HFA.out _ h).2.2 rfl))
        have HKA := Lib.hid (HKA.out.trans hu.kp (fun k hk h => by have := (HFA.out k h).1; omega))
        have HFA := HFN
        have HMA := Lib.hid hmn
        have HUK := Lib.hid hu.kp
        clear hmn hu HS HFN a0 a1 a2 a3 a4 a5 a6 a7 a8 b0 b1 b2 b3 b4 b5 b6 b7 b8
        have a0 : w6.cell? ⟨y2, 0, none⟩ = some _ := Blk.cell HBA.out rfl
        have a1 : w6.cell? ⟨y2, 1, none⟩ = some _ := Blk.cell HBA.out rfl
        have a2 : w6.cell? ⟨y2, 2, none⟩ = some _ := Blk.cell HBA.out rfl
        have a3 : w6.cell? ⟨y2, 3, none⟩ = some _ := Blk.cell HBA.out rfl
        have a4 : w6.cell? ⟨y2, 4, none⟩ = some _ := Blk.cell HBA.out rfl
        have a5 : w6.cell? ⟨y2, 5, none⟩ = some _ := Blk.cell HBA.out rfl
        have a6 : w6.cell? ⟨y2, 6, none⟩ = some _ := Blk.cell HBA.out rfl
        have a7 : w6.cell? ⟨y2, 7, none⟩ = some _ := Blk.cell HBA.out rfl
        have a8 : w6.cell? ⟨y2, 8, none⟩ = some _ := Blk.cell HBA.out rfl
        have b0 : w6.cell? ⟨y3, 0, none⟩ = some _ := Blk.cell HBB.out rfl
        have b1 : w6.cell? ⟨y3, 1, none⟩ = some _ := Blk.cell HBB.out rfl
        have b2 : w6.cell? ⟨y3, 2, none⟩ = some _ := Blk.cell HBB.out rfl
        have b3 : w6.cell? ⟨y3, 3, none⟩ = some _ := Blk.cell HBB.out rfl
        have b4 : w6.cell? ⟨y3, 4, none⟩ = some _ := Blk.cell HBB.out rfl
        have b5 : w6.cell? ⟨y3, 5, none⟩ = some _ := Blk.cell HBB.out rfl
        have b6 : w6.cell? ⟨y3, 6, none⟩ = some _ := Blk.cell HBB.out rfl
        have b7 : w6.cell? ⟨y3, 7, none⟩ = some _ := Blk.cell HBB.out rfl
        have b8 : w6.cell? ⟨y3, 8, none⟩ = some _ := Blk.cell HBB.out rfl
        go_wp2_with fail
        (refine ⟨?anew, ?_⟩; case anew => ((repeat (refine Reg.anew_cons rfl rfl (fun _ => by go_simp) ?_)); exact Reg.anew_nil))
        repeat (first | (refine Reg.lookT rfl rfl rfl (by go_simp; rfl) rfl ?_; go_simp))
        refine Reg.doneT ?_
        simp only [Exit.then]
        go_wp2_with fail
        go_meet
        exact ⟨rfl, rfl, F2, HMA, HFA, HKA, HBA, HBB⟩
      · skip
        obtain ⟨g2, hg2⟩ : ∃ v, w3.heap.size = v := ⟨_, rfl⟩
        obtain ⟨w5, hw3⟩ : ∃ v, w3.alloc (.cells #[.int .i64 1, .int .i64 1, .int .i64 3, .int .i64 0, .int .i64 0, .int .i64 0, .string { data := #[] }, .int .i64 0, .slice none 0 0, .int .i64 2, .int .i64 2, .int .i64 3, .int .i64 0, .int .i64 0, .int .i64 0, .string { data := #[] }, .int .i64 0, .slice none 0 0] 38) = v := ⟨_, rfl⟩
        have hkv : Kp No w3 w5 := by rw [← hw3]; exact (Kp.refl _ _).alloc _
        have HR2 : Hid (Rp.opl.slice.R w5 (fun k => k = g2) [.slice (some ⟨g2, 0, none⟩) 2 2] [opA, opC]) := Lib.hid (by
          have h := lit2_read w3 opA opC opA_nums opC_nums rfl rfl
          rw [hg2] at h
          rw [← hw3]; exact h)
        have HG2 : Hid (∀ k, F k → k ≠ g2) := Lib.hid (fun k hk => by have := HMA.out.lt hk; omega)
        have HG2L : Hid (g2 < w5.heap.size) := Lib.hid (by rw [← hw3, ← hg2]; simp)
        go_wp2_with fail
        clear hg2 hw3
        have HR1 := Lib.hid (Rp.opl.slice.keptNo HR1.out hkv)
        have HBA := Lib.hid (HBA.out.kept hkv (fun z => z))
        have HBB := Lib.hid (HBB.out.kept hkv (fun z => z))
        have HMA := Lib.hid (HMA.out.keptNo hkv)
        have HKA := Lib.hid (HKA.out.trans' hkv)
        clear a0 a1 a2 a3 a4 a5 a6 a7 a8 b0 b1 b2 b3 b4 b5 b6 b7 b8
        have a0 : w5.cell? ⟨y2, 0, none⟩ = some _ := Blk.cell HBA.out rfl
        have a1 : w5.cell? ⟨y2, 1, none⟩ = some _ := Blk.cell HBA.out rfl
        have a2 : w5.cell? ⟨y2, 2, none⟩ = some _ := Blk.cell HBA.out rfl
        have a3 : w5.cell? ⟨y2, 3, none⟩ = some _ := Blk.cell HBA.out rfl
        have a4 : w5.cell? ⟨y2, 4, none⟩ = some _ := Blk.cell HBA.out rfl
        have a5 : w5.cell? ⟨y2, 5, none⟩ = some _ := Blk.cell HBA.out rfl
        have a6 : w5.cell? ⟨y2, 6, none⟩ = some _ := Blk.cell HBA.out rfl
        have a7 : w5.cell? ⟨y2, 7, none⟩ = some _ := Blk.cell HBA.out rfl
        have a8 : w5.cell? ⟨y2, 8, none⟩ = some _ := Blk.cell HBA.out rfl
        have b0 : w5.cell? ⟨y3, 0, none⟩ = some _ := Blk.cell HBB.out rfl
        have b1 : w5.cell? ⟨y3, 1, none⟩ = some _ := Blk.cell HBB.out rfl
        have b2 : w5.cell? ⟨y3, 2, none⟩ = some _ := Blk.cell HBB.out rfl
        have b3 : w5.cell? ⟨y3, 3, none⟩ = some _ := Blk.cell HBB.out rfl
        have b4 : w5.cell? ⟨y3, 4, none⟩ = some _ := Blk.cell HBB.out rfl
        have b5 : w5.cell? ⟨y3, 5, none⟩ = some _ := Blk.cell HBB.out rfl
        have b6 : w5.cell? ⟨y3, 6, none⟩ = some _ := Blk.cell HBB.out rfl
        have b7 : w5.cell? ⟨y3, 7, none⟩ = some _ := Blk.cell HBB.out rfl
        have b8 : w5.cell? ⟨y3, 8, none⟩ = some _ := Blk.cell HBB.out rfl
        clear hkv
        (refine ⟨?anew, ?_⟩; case anew => ((repeat (refine Reg.anew_cons rfl rfl (fun _ => by go_simp) ?_)); exact Reg.anew_nil))
        repeat (first | (refine Reg.lookT rfl rfl rfl (by go_simp; rfl) rfl ?_; go_simp))
        refine Reg.oneT rfl ?_
        have hs := see_two opA opB rfl rfl _ m _ F w5 HMA.out OkM.new HR1.out
        rw [see1] at hs
        have HS := Lib.hid hs
        clear hs
        go_wp2_with fail
        refine HS.out.mono ?_
        rintro e w4 ⟨rfl, F1, hmn, hu⟩
        have HFN : Hid (∀ k, F1 k → w.heap.size ≤ k ∧ k ≠ y2 ∧ k ≠ y3) := Lib.hid (fun k hk => by
          rcases hu.foot k hk with h | h
          · exact HFA.out k h
          · have h1 := Blk.lt HBA.out
            have h2 := Blk.lt HBB.out
            have h3 := HKA.out.size
            exact ⟨by omega, by omega, by omega⟩)
        have HBA := Lib.hid (HBA.out.kept hu.kp (fun h => (HFA.out _ h).2.1 rfl))
        have HBB := Lib.hid (HBB.out.kept hu.kp (fun h => (HFA.out _ h).2.2 rfl))
        have HKA := Lib.hid (HKA.out.trans hu.kp (fun k hk h => by have := (HFA.out k h).1; omega))
        have HFA := HFN
        have HMA := Lib.hid hmn
        have HUK := Lib.hid hu.kp
        clear hmn hu HS HFN a0 a1 a2 a3 a4 a5 a6 a7 a8 b0 b1 b2 b3 b4 b5 b6 b7 b8
        have a0 : w4.cell? ⟨y2, 0, none⟩ = some _ := Blk.cell HBA.out rfl
        have a1 : w4.cell? ⟨y2, 1, none⟩ = some _ := Blk.cell HBA.out rfl
        have a2 : w4.cell? ⟨y2, 2, none⟩ = some _ := Blk.cell HBA.out rfl
        have a3 : w4.cell? ⟨y2, 3, none⟩ = some _ := Blk.cell HBA.out rfl
        have a4 : w4.cell? ⟨y2, 4, none⟩ = some _ := Blk.cell HBA.out rfl
        have a5 : w4.cell? ⟨y2, 5, none⟩ = some _ := Blk.cell HBA.out rfl
        have a6 : w4.cell? ⟨y2, 6, none⟩ = some _ := Blk.cell HBA.out rfl
        have a7 : w4.cell? ⟨y2, 7, none⟩ = some _ := Blk.cell HBA.out rfl
        have a8 : w4.cell? ⟨y2, 8, none⟩ = some _ := Blk.cell HBA.out rfl
        have b0 : w4.cell? ⟨y3, 0, none⟩ = some _ := Blk.cell HBB.out rfl
        have b1 : w4.cell? ⟨y3, 1, none⟩ = some _ := Blk.cell HBB.out rfl
        have b2 : w4.cell? ⟨y3, 2, none⟩ = some _ := Blk.cell HBB.out rfl
        have b3 : w4.cell? ⟨y3, 3, none⟩ = some _ := Blk.cell HBB.out rfl
        have b4 : w4.cell? ⟨y3, 4, none⟩ = some _ := Blk.cell HBB.out rfl
        have b5 : w4.cell? ⟨y3, 5, none⟩ = some _ := Blk.cell HBB.out rfl
        have b6 : w4.cell? ⟨y3, 6, none⟩ = some _ := Blk.cell HBB.out rfl
        have b7 : w4.cell? ⟨y3, 7, none⟩ = some _ := Blk.cell HBB.out rfl
        have b8 : w4.cell? ⟨y3, 8, none⟩ = some _ := Blk.cell HBB.out rfl
        have HR2 := Lib.hid (Rp.opl.slice.kept HR2.out HUK.out (fun k hk _ h => HG2.out k h hk))
        go_wp2_with fail
        (refine ⟨?anew, ?_⟩; case anew => ((repeat (refine Reg.anew_cons rfl rfl (fun _ => by go_simp) ?_)); exact Reg.anew_nil))
        repeat (first | (refine Reg.lookT rfl rfl rfl (by go_simp; rfl) rfl ?_; go_simp))
        refine Reg.oneT rfl ?_
        have hs := see_two opA opC rfl rfl _ m _ F1 w4 HMA.out (OkM.see OkM.new (by decide) (by decide)) HR2.out
        rw [see2z] at hs
        have HS := Lib.hid hs
        clear hs
        go_wp2_with fail
        refine HS.out.mono ?_
        rintro e w6 ⟨rfl, F2, hmn, hu⟩
        have HFN : Hid (∀ k, F2 k → w.heap.size ≤ k ∧ k ≠ y2 ∧ k ≠ y3) := Lib.hid (fun k hk => by
          rcases hu.foot k hk with h | h
          · exact HFA.out k h
          · have h1 := Blk.lt HBA.out
            have h2 := Blk.lt HBB.out
            have h3 := HKA.out.size
            exact ⟨by omega, by omega, by omega⟩)
        have HBA := Lib.hid (HBA.out.kept hu.kp (fun h => (HFA.out _ h).2.1 rfl))
        have HBB := Lib.hid (HBB.out.kept hu.kp (fun h => (HFA.out _ h).2.2 rfl))
        have HKA := Lib.hid (HKA.out.trans hu.kp (fun k hk h => by have := (HFA.out k h).1; omega))
        have HFA := HFN
        have HMA := Lib.hid hmn
        have HUK := Lib.hid hu.kp
        clear hmn hu HS HFN a0 a1 a2 a3 a4 a5 a6 a7 a8 b0 b1 b2 b3 b4 b5 b6 b7 b8
        have a0 : w6.cell? ⟨y2, 0, none⟩ = some _ := Blk.cell HBA.out rfl
        have a1 : w6.cell? ⟨y2, 1, none⟩ = some _ := Blk.cell HBA.out rfl
        have a2 : w6.cell? ⟨y2, 2, none⟩ = some _ := Blk.cell HBA.out rfl
        have a3 : w6.cell? ⟨y2, 3, none⟩ = some _ := Blk.cell HBA.out rfl
        have a4 : w6.cell? ⟨y2, 4, none⟩ = some _ := Blk.cell HBA.out rfl
        have a5 : w6.cell? ⟨y2, 5, none⟩ = some _ := Blk.cell HBA.out rfl
        have a6 : w6.cell? ⟨y2, 6, none⟩ = some _ := Blk.cell HBA.out rfl
        have a7 : w6.cell? ⟨y2, 7, none⟩ = some _ := Blk.cell HBA.out rfl
        have a8 : w6.cell? ⟨y2, 8, none⟩ = some _ := Blk.cell HBA.out rfl
        have b0 : w6.cell? ⟨y3, 0, none⟩ = some _ := Blk.cell HBB.out rfl
        have b1 : w6.cell? ⟨y3, 1, none⟩ = some _ := Blk.cell HBB.out rfl
        have b2 : w6.cell? ⟨y3, 2, none⟩ = some _ := Blk.cell HBB.out rfl
        have b3 : w6.cell? ⟨y3, 3, none⟩ = some _ := Blk.cell HBB.out rfl
        have b4 : w6.cell? ⟨y3, 4, none⟩ = some _ := Blk.cell HBB.out rfl
        have b5 : w6.cell? ⟨y3, 5, none⟩ = some _ := Blk.cell HBB.out rfl
        have b6 : w6.cell? ⟨y3, 6, none⟩ = some _ := Blk.cell HBB.out rfl
        have b7 : w6.cell? ⟨y3, 7, none⟩ = some _ := Blk.cell HBB.out rfl
        have b8 : w6.cell? ⟨y3, 8, none⟩ = some _ := Blk.cell HBB.out rfl
        go_wp2_with fail
        (refine ⟨?anew, ?_⟩; case anew => ((repeat (refine Reg.anew_cons rfl rfl (fun _ => by go_simp) ?_)); exact Reg.anew_nil))
        repeat (first | (refine Reg.lookT rfl rfl rfl (by go_simp; rfl) rfl ?_; go_simp))
        refine Reg.doneT ?_
        simp only [Exit.then]
        go_wp2_with fail
        go_meet
        exact ⟨rfl, rfl, F2, HMA, HFA, HKA, HBA, HBB⟩
    · skip
      obtain ⟨g2, hg2⟩ : ∃ v, wd.heap.size = v := ⟨_, rfl⟩
      obtain ⟨w3, hw3⟩ : ∃ v, wd.alloc (.cells #[.int .i64 1, .int .i64 1, .int .i64 3, .int .i64 0, .int .i64 0, .int .i64 0, .string { data := #[] }, .int .i64 0, .slice none 0 0, .int .i64 2, .int .i64 2, .int .i64 3, .int .i64 0, .int .i64 0, .int .i64 0, .string { data := #[] }, .int .i64 0, .slice none 0 0] 38) = v := ⟨_, rfl⟩
      have hkv : Kp No wd w3 := by rw [← hw3]; exact (Kp.refl _ _).alloc _
      have HR2 : Hid (Rp.opl.slice.R w3 (fun k => k = g2) [.slice (some ⟨g2, 0, none⟩) 2 2] [opA, opC]) := Lib.hid (by
        have h := lit2_read wd opA opC opA_nums opC_nums rfl rfl
        rw [hg2] at h
        rw [← hw3]; exact h)
      have HG2 : Hid (∀ k, F k → k ≠ g2) := Lib.hid (fun k hk => by have := HMA.out.lt hk; omega)
      have HG2L : Hid (g2 < w3.heap.size) := Lib.hid (by rw [← hw3, ← hg2]; simp)
      go_wp2_with fail
      clear hg2 hw3
      have HBA := Lib.hid (HBA.out.kept hkv (fun z => z))
      have HBB := Lib.hid (HBB.out.kept hkv (fun z => z))
      have HMA := Lib.hid (HMA.out.keptNo hkv)
      have HKA := Lib.hid (HKA.out.trans' hkv)
      clear a0 a1 a2 a3 a4 a5 a6 a7 a8 b0 b1 b2 b3 b4 b5 b6 b7 b8
      have a0 : w3.cell? ⟨y2, 0, none⟩ = some _ := Blk.cell HBA.out rfl
      have a1 : w3.cell? ⟨y2, 1, none⟩ = some _ := Blk.cell HBA.out rfl
      have a2 : w3.cell? ⟨y2, 2, none⟩ = some _ := Blk.cell HBA.out rfl
      have a3 : w3.cell? ⟨y2, 3, none⟩ = some _ := Blk.cell HBA.out rfl
      have a4 : w3.cell? ⟨y2, 4, none⟩ = some _ := Blk.cell HBA.out rfl
      have a5 : w3.cell? ⟨y2, 5, none⟩ = some _ := Blk.cell HBA.out rfl
      have a6 : w3.cell? ⟨y2, 6, none⟩ = some _ := Blk.cell HBA.out rfl
      have a7 : w3.cell? ⟨y2, 7, none⟩ = some _ := Blk.cell HBA.out rfl
      have a8 : w3.cell? ⟨y2, 8, none⟩ = some _ := Blk.cell HBA.out rfl
      have b0 : w3.cell? ⟨y3, 0, none⟩ = some _ := Blk.cell HBB.out rfl
      have b1 : w3.cell? ⟨y3, 1, none⟩ = some _ := Blk.cell HBB.out rfl
      have b2 : w3.cell? ⟨y3, 2, none⟩ = some _ := Blk.cell HBB.out rfl
      have b3 : w3.cell? ⟨y3, 3, none⟩ = some _ := Blk.cell HBB.out rfl
      have b4 : w3.cell? ⟨y3, 4, none⟩ = some _ := Blk.cell HBB.out rfl
      have b5 : w3.cell? ⟨y3, 5, none⟩ = some _ := Blk.cell HBB.out rfl
      have b6 : w3.cell? ⟨y3, 6, none⟩ = some _ := Blk.cell HBB.out rfl
      have b7 : w3.cell? ⟨y3, 7, none⟩ = some _ := Blk.cell HBB.out rfl
      have b8 : w3.cell? ⟨y3, 8, none⟩ = some _ := Blk.cell HBB.out rfl
      clear hkv
      (refine ⟨?anew, ?_⟩; case anew => ((repeat (refine Reg.anew_cons rfl rfl (fun _ => by go_simp) ?_)); exact Reg.anew_nil))
      repeat (first | (refine Reg.lookT rfl rfl rfl (by go_simp; rfl) rfl ?_; go_simp))
      obtain ⟨g1, hg1⟩ : ∃ v, w3.heap.size = v := ⟨_, rfl⟩
      obtain ⟨w5, hw3⟩ : ∃ v, w3.alloc (.cells #[.int .i64 1, .int .i64 1, .int .i64 3, .int .i64 0, .int .i64 0, .int .i64 0, .string { data := #[] }, .int .i64 0, .slice none 0 0, .int .i64 2, .int .i64 1, .int .i64 1, .int .i64 0, .int .i64 0, .int .i64 1, .string { data := #[97] }, .int .i64 0, .slice none 0 0] 38) = v := ⟨_, rfl⟩
      have hkv : Kp No w3 w5 := by rw [← hw3]; exact (Kp.refl _ _).alloc _
      have HR1 : Hid (Rp.opl.slice.R w5 (fun k => k = g1) [.slice (some ⟨g1, 0, none⟩) 2 2] [opA, opB]) := Lib.hid (by
        have h := lit2_read w3 opA opB opA_nums opB_nums rfl rfl
        rw [hg1] at h
        rw [← hw3]; exact h)
      have HG1 : Hid (∀ k, F k → k ≠ g1) := Lib.hid (fun k hk => by have := HMA.out.lt hk; omega)
      refine Reg.oneT rfl ?_
      go_wp2_with fail
      clear hg1 hw3
      have HR2 := Lib.hid (Rp.opl.slice.keptNo HR2.out hkv)
      have HBA := Lib.hid (HBA.out.kept hkv (fun z => z))
      have HBB := Lib.hid (HBB.out.kept hkv (fun z => z))
      have HMA := Lib.hid (HMA.out.keptNo hkv)
      have HKA := Lib.hid (HKA.out.trans' hkv)
      clear a0 a1 a2 a3 a4 a5 a6 a7 a8 b0 b1 b2 b3 b4 b5 b6 b7 b8
      have a0 : w5.cell? ⟨y2, 0, none⟩ = some _ := Blk.cell HBA.out rfl
      have a1 : w5.cell? ⟨y2, 1, none⟩ = some _ := Blk.cell HBA.out rfl
      have a2 : w5.cell? ⟨y2, 2, none⟩ = some _ := Blk.cell HBA.out rfl
      have a3 : w5.cell? ⟨y2, 3, none⟩ = some _ := Blk.cell HBA.out rfl
      have a4 : w5.cell? ⟨y2, 4, none⟩ = some _ := Blk.cell HBA.out rfl
      have a5 : w5.cell? ⟨y2, 5, none⟩ = some _ := Blk.cell HBA.out rfl
      have a6 : w5.cell? ⟨y2, 6, none⟩ = some _ := Blk.cell HBA.out rfl
      have a7 : w5.cell? ⟨y2, 7, none⟩ = some _ := Blk.cell HBA.out rfl
      have a8 : w5.cell? ⟨y2, 8, none⟩ = some _ := Blk.cell HBA.out rfl
      have b0 : w5.cell? ⟨y3, 0, none⟩ = some _ := Blk.cell HBB.out rfl
      have b1 : w5.cell? ⟨y3, 1, none⟩ = some _ := Blk.cell HBB.out rfl
      have b2 : w5.cell? ⟨y3, 2, none⟩ = some _ := Blk.cell HBB.out rfl
      have b3 : w5.cell? ⟨y3, 3, none⟩ = some _ := Blk.cell HBB.out rfl
      have b4 : w5.cell? ⟨y3, 4, none⟩ = some _ := Blk.cell HBB.out rfl
      have b5 : w5.cell? ⟨y3, 5, none⟩ = some _ := Blk.cell HBB.out rfl
      have b6 : w5.cell? ⟨y3, 6, none⟩ = some _ := Blk.cell HBB.out rfl
      have b7 : w5.cell? ⟨y3, 7, none⟩ = some _ := Blk.cell HBB.out rfl
      have b8 : w5.cell? ⟨y3, 8, none⟩ = some _ := Blk.cell HBB.out rfl
      clear hkv
      (refine ⟨?anew, ?_⟩; case anew => ((repeat (refine Reg.anew_cons rfl rfl (fun _ => by go_simp) ?_)); exact Reg.anew_nil))
      repeat (first | (refine Reg.lookT rfl rfl rfl (by go_simp; rfl) rfl ?_; go_simp))
      refine Reg.oneT rfl ?_
      have hs := see_two opA opB rfl rfl _ m _ F w5 HMA.out OkM.new HR1.out
      rw [see1] at hs
      have HS := Lib.hid hs
      clear hs
      go_wp2_with fail
      refine HS.out.mono ?_
      rintro e w4 ⟨rfl, F1, hmn, hu⟩
      have HFN : Hid (∀ k, F1 k → w.heap.size ≤ k ∧ k ≠ y2 ∧ k ≠ y3) := Lib.hid (fun k hk => by
        rcases hu.foot k hk with h | h
        · exact HFA.out k h
        · have h1 := Blk.lt HBA.out
          have h2 := Blk.lt HBB.out
          have h3 := HKA.out.size
          exact ⟨by omega, by omega, by omega⟩)
      have HBA := Lib.hid (HBA.out.kept hu.kp (fun h => (HFA.out _ h).2.1 rfl))
      have HBB := Lib.hid (HBB.out.kept hu.kp (fun h => (HFA.out _ h).2.2 rfl))
      have HKA := Lib.hid (HKA.out.trans hu.kp (fun k hk h => by have := (HFA.out k h).1; omega))
      have HFA := HFN
      have HMA := Lib.hid hmn
      have HUK := Lib.hid hu.kp
      clear hmn hu HS HFN a0 a1 a2 a3 a4 a5 a6 a7 a8 b0 b1 b2 b3 b4 b5 b6 b7 b8
      have a0 : w4.cell? ⟨y2, 0, none⟩ = some _ := Blk.cell HBA.out rfl
      have a1 : w4.cell? ⟨y2, 1, none⟩ = some _ := Blk.cell HBA.out rfl
      have a2 : w4.cell? ⟨y2, 2, none⟩ = some _ := Blk.cell HBA.out rfl
      have a3 : w4.cell? ⟨y2, 3, none⟩ = some _ := Blk.cell HBA.out rfl
      have a4 : w4.cell? ⟨y2, 4, none⟩ = some _ := Blk.cell HBA.out rfl
      have a5 : w4.cell? ⟨y2, 5, none⟩ = some _ := Blk.cell HBA.out rfl
      have a6 : w4.cell? ⟨y2, 6, none⟩ = some _ := Blk.cell HBA.out rfl
      have a7 : w4.cell? ⟨y2, 7, none⟩ = some _ := Blk.cell HBA.out rfl
      have a8 : w4.cell? ⟨y2, 8, none⟩ = some _ := Blk.cell HBA.out rfl
      have b0 : w4.cell? ⟨y3, 0, none⟩ = some _ := Blk.cell HBB.out rfl
      have b1 : w4.cell? ⟨y3, 1, none⟩ = some _ := Blk.cell HBB.out rfl
      have b2 : w4.cell? ⟨y3, 2, none⟩ = some _ := Blk.cell HBB.out rfl
      have b3 : w4.cell? ⟨y3, 3, none⟩ = some _ := Blk.cell HBB.out rfl
      have b4 : w4.cell? ⟨y3, 4, none⟩ = some _ := Blk.cell HBB.out rfl
      have b5 : w4.cell? ⟨y3, 5, none⟩ = some _ := Blk.cell HBB.out rfl
      have b6 : w4.cell? ⟨y3, 6, none⟩ = some _ := Blk.cell HBB.out rfl
      have b7 : w4.cell? ⟨y3, 7, none⟩ = some _ := Blk.cell HBB.out rfl
      have b8 : w4.cell? ⟨y3, 8, none⟩ = some _ := Blk.cell HBB.out rfl
      have HR2 := Lib.hid (Rp.opl.slice.kept HR2.out HUK.out (fun k hk _ h => HG2.out k h hk))
      go_wp2_with fail
      (refine ⟨?anew, ?_⟩; case anew => ((repeat (refine Reg.anew_cons rfl rfl (fun _ => by go_simp) ?_)); exact Reg.anew_nil))
      repeat (first | (refine Reg.lookT rfl rfl rfl (by go_simp; rfl) rfl ?_; go_simp))
      refine Reg.oneT rfl ?_
      have hs := see_two opA opC rfl rfl _ m _ F1 w4 HMA.out (OkM.see OkM.new (by decide) (by decide)) HR2.out
      rw [see2z] at hs
      have HS := Lib.hid hs
      clear hs
      go_wp2_with fail
      refine HS.out.mono ?_
      rintro e w6 ⟨rfl, F2, hmn, hu⟩
      have HFN : Hid (∀ k, F2 k → w.heap.size ≤ k ∧ k ≠ y2 ∧ k ≠ y3) := Lib.hid (fun k hk => by
        rcases hu.foot k hk with h | h
        · exact HFA.out k h
        · have h1 := Blk.lt HBA.out
          have h2 := Blk.lt HBB.out
          have h3 := HKA.out.size
          exact ⟨by omega, by omega, by omega⟩)
      have HBA := Lib.hid (HBA.out.kept hu.kp (fun h => (HFA.out _ h).2.1 rfl))
      have HBB := Lib.hid (HBB.out.kept hu.kp (fun h => (HFA.out _ h).2.2 rfl))
      have HKA := Lib.hid (HKA.out.trans hu.kp (fun k hk h => by have := (HFA.out k h).1; omega))
      have HFA := HFN
      have HMA := Lib.hid hmn
      have HUK := Lib.hid hu.kp
      clear hmn hu HS HFN a0 a1 a2 a3 a4 a5 a6 a7 a8 b0 b1 b2 b3 b4 b5 b6 b7 b8
      have a0 : w6.cell? ⟨y2, 0, none⟩ = some _ := Blk.cell HBA.out rfl
      have a1 : w6.cell? ⟨y2, 1, none⟩ = some _ := Blk.cell HBA.out rfl
      have a2 : w6.cell? ⟨y2, 2, none⟩ = some _ := Blk.cell HBA.out rfl
      have a3 : w6.cell? ⟨y2, 3, none⟩ = some _ := Blk.cell HBA.out rfl
      have a4 : w6.cell? ⟨y2, 4, none⟩ = some _ := Blk.cell HBA.out rfl
      have a5 : w6.cell? ⟨y2, 5, none⟩ = some _ := Blk.cell HBA.out rfl
      have a6 : w6.cell? ⟨y2, 6, none⟩ = some _ := Blk.cell HBA.out rfl
      have a7 : w6.cell? ⟨y2, 7, none⟩ = some _ := Blk.cell HBA.out rfl
      have a8 : w6.cell? ⟨y2, 8, none⟩ = some _ := Blk.cell HBA.out rfl
      have b0 : w6.cell? ⟨y3, 0, none⟩ = some _ := Blk.cell HBB.out rfl
      have b1 : w6.cell? ⟨y3, 1, none⟩ = some _ := Blk.cell HBB.out rfl
      have b2 : w6.cell? ⟨y3, 2, none⟩ = some _ := Blk.cell HBB.out rfl
      have b3 : w6.cell? ⟨y3, 3, none⟩ = some _ := Blk.cell HBB.out rfl
      have b4 : w6.cell? ⟨y3, 4, none⟩ = some _ := Blk.cell HBB.out rfl
      have b5 : w6.cell? ⟨y3, 5, none⟩ = some _ := Blk.cell HBB.out rfl
      have b6 : w6.cell? ⟨y3, 6, none⟩ = some _ := Blk.cell HBB.out rfl
      have b7 : w6.cell? ⟨y3, 7, none⟩ = some _ := Blk.cell HBB.out rfl
      have b8 : w6.cell? ⟨y3, 8, none⟩ = some _ := Blk.cell HBB.out rfl
      go_wp2_with fail
      (refine ⟨?anew, ?_⟩; case anew => ((repeat (refine Reg.anew_cons rfl rfl (fun _ => by go_simp) ?_)); exact Reg.anew_nil))
      repeat (first | (refine Reg.lookT rfl rfl rfl (by go_simp; rfl) rfl ?_; go_simp))
      refine Reg.doneT ?_
      simp only [Exit.then]
      go_wp2_with fail
      go_meet
      exact ⟨rfl, rfl, F2, HMA, HFA, HKA, HBA, HBB⟩
  case rest =>
    obtain ⟨rfl, rfl, F2, HM2, HF2, HK2, HBA, HBB⟩ := hcut
    have b6 : wc.cell? ⟨y3, 6, none⟩ = some _ := Blk.cell HBB.out rfl
    have g6 := Blk.fr HBB.out 6
    obtain ⟨w7, hw7⟩ : ∃ v, wc.setCell ⟨y3, 6, none⟩ (.string { data := #[98] }) = v := ⟨_, rfl⟩
    have hk7 : Kp (· = y3) wc w7 := by rw [← hw7]; exact (Kp.refl (· = y3) wc).setCell (p := ⟨y3, 6, none⟩) (fun _ => rfl) _
    have hby := HYN.out
    have HBA := Lib.hid (HBA.out.kept hk7 hby)
    have HBB : Hid (Blk w7 y3 38 [.int .i64 2, .int .i64 1, .int .i64 1, .int .i64 0, .int .i64 0, .int .i64 1, .string { data := #[98] }, .int .i64 0, .slice none 0 0]) := Lib.hid (by rw [← hw7]; exact Blk.set HBB.out 6 (.string { data := #[98] }))
    have HM7 := Lib.hid (HM2.out.kept hk7 (fun k hk e => (HF2.out k hk).2.2 e))
    have HK7 : Hid (Kp No w w7) := Lib.hid (HK2.out.trans hk7 (fun k hk e => by have := HYL.out; omega))
    obtain ⟨g3, hg3⟩ : ∃ v, w7.heap.size = v := ⟨_, rfl⟩
    obtain ⟨w8, hw8⟩ : ∃ v, w7.alloc (.cells #[.int .i64 1, .int .i64 1, .int .i64 3, .int .i64 0, .int .i64 0, .int .i64 0, .string { data := #[] }, .int .i64 0, .slice none 0 0, .int .i64 2, .int .i64 1, .int .i64 1, .int .i64 0, .int .i64 0, .int .i64 1, .string { data := #[98] }, .int .i64 0, .slice none 0 0] 38) = v := ⟨_, rfl⟩
    have hk8 : Kp No w7 w8 := by rw [← hw8]; exact (Kp.refl _ _).alloc _
    have hr3 : Rp.opl.slice.R w8 (fun k => k = g3) [.slice (some ⟨g3, 0, none⟩) 2 2] [opA, opD] := by
      have h := lit2_read w7 opA opD opA_nums opD_nums rfl rfl
      rw [hg3] at h
      rw [← hw8]; exact h
    have hs := see_two opA opD rfl rfl g3 m M2 F2 w8 (HM7.out.keptNo hk8) (OkM.see (OkM.see OkM.new (by decide) (by decide)) (by decide) (by decide)) hr3
    rw [see3] at hs
    have HS := Lib.hid hs
    have HK8 := Lib.hid (HK7.out.trans' hk8)
    have a0 : w7.cell? ⟨y2, 0, none⟩ = some _ := Blk.cell HBA.out rfl
    have a1 : w7.cell? ⟨y2, 1, none⟩ = some _ := Blk.cell HBA.out rfl
    have a2 : w7.cell? ⟨y2, 2, none⟩ = some _ := Blk.cell HBA.out rfl
    have a3 : w7.cell? ⟨y2, 3, none⟩ = some _ := Blk.cell HBA.out rfl
    have a4 : w7.cell? ⟨y2, 4, none⟩ = some _ := Blk.cell HBA.out rfl
    have a5 : w7.cell? ⟨y2, 5, none⟩ = some _ := Blk.cell HBA.out rfl
    have a6 : w7.cell? ⟨y2, 6, none⟩ = some _ := Blk.cell HBA.out rfl
    have a7 : w7.cell? ⟨y2, 7, none⟩ = some _ := Blk.cell HBA.out rfl
    have a8 : w7.cell? ⟨y2, 8, none⟩ = some _ := Blk.cell HBA.out rfl
    have b0 : w7.cell? ⟨y3, 0, none⟩ = some _ := Blk.cell HBB.out rfl
    have b1 : w7.cell? ⟨y3, 1, none⟩ = some _ := Blk.cell HBB.out rfl
    have b2 : w7.cell? ⟨y3, 2, none⟩ = some _ := Blk.cell HBB.out rfl
    have b3 : w7.cell? ⟨y3, 3, none⟩ = some _ := Blk.cell HBB.out rfl
    have b4 : w7.cell? ⟨y3, 4, none⟩ = some _ := Blk.cell HBB.out rfl
    have b5 : w7.cell? ⟨y3, 5, none⟩ = some _ := Blk.cell HBB.out rfl
    have b6 : w7.cell? ⟨y3, 6, none⟩ = some _ := Blk.cell HBB.out rfl
    have b7 : w7.cell? ⟨y3, 7, none⟩ = some _ := Blk.cell HBB.out rfl
    have b8 : w7.cell? ⟨y3, 8, none⟩ = some _ := Blk.cell HBB.out rfl
    clear hk7 hk8 hr3 hs
    go_wp2_with fail
    refine HS.out.mono ?_
    rintro e w9 ⟨rfl, F3, hm9, hu9⟩
    have HM9 := Lib.hid hm9
    have HFL : Hid (∀ k, F3 k → k < w9.heap.size) := Lib.hid (fun k hk => hm9.lt hk)
    have HK9 := Lib.hid (HK8.out.trans hu9.kp (fun k hk h => by have := (HF2.out k h).1; omega))
    have HF9 : Hid (∀ k, F3 k → w.heap.size ≤ k) := Lib.hid (fun k hk => by
      rcases hu9.foot k hk with h | h
      · exact (HF2.out k h).1
      · have := HK8.out.size; omega)
    have hok2 : OkM M2 := OkM.see (OkM.see OkM.new (by decide) (by decide)) (by decide) (by decide)
    have HO2 := Lib.hid hok2
    have hna := m_names (2, 1) m M2 F3 w9 hm9 hok2
    rw [names_a, path_a] at hna
    unfold spotV at hna
    have HNA := Lib.hid hna
    clear hm9 hu9 hna hok2 HS HBA HBB HM2 HF2 HM7 b6 g6 hg3 hw8 hw7 a0 a1 a2 a3 a4 a5 a6 a7 a8 b0 b1 b2 b3 b4 b5 b7 b8
    go_wp2_with fail
    refine HNA.out.mono ?_
    rintro e w10 ⟨A, c, rfl, hown, hk10⟩
    have HRN : Hid (Rp.str.slice.R w10 (fun k => w9.heap.size ≤ k) [.slice A 1 c] [⟨#[97]⟩]) := Lib.hid (Rp.str.slice.more hown.readFrom (fun k hk => by
      rcases hk with hk | hk
      · exact hk.elim
      · exact hk))
    have HM10 := Lib.hid (HM9.out.keptNo hk10)
    have HK10 := Lib.hid (HK9.out.trans' hk10)
    have hnb := m_names (3, 1) m M2 F3 w10 HM10.out HO2.out
    rw [path_b] at hnb
    unfold spotV at hnb
    have HNB := Lib.hid hnb
    clear hown hk10 hnb HNA HM9 HK9
    go_wp2_with fail
    refine HNB.out.mono ?_
    rintro e w11 ⟨A2, c2, rfl, _, hk11⟩
    have HRN2 := Lib.hid (Rp.str.slice.keptNo HRN.out hk11)
    have HM11 := Lib.hid (HM10.out.keptNo hk11)
    have HK11 := Lib.hid (HK10.out.trans' hk11)
    have hak := m_asked askA m M2 F3 w11 HM11.out ⟨rfl, rfl, rfl, by decide +kernel, by decide +kernel, rfl, rfl⟩ (by decide +kernel)
    unfold askV at hak
    have HAK := Lib.hid hak
    clear hk11 hak HNB HM10 HK10 HRN
    go_wp2_with fail
    refine HAK.out.mono ?_
    rintro e w12 ⟨rfl, F4, hm12, hu12⟩
    rw [asked3] at hm12
    have HK12 := Lib.hid (HK11.out.trans hu12.kp (fun k hk h => by have := HF9.out k h; omega))
    have HRN3 : Hid (Rp.str.slice.R w12 (fun k => w9.heap.size ≤ k) [.slice A 1 c] [⟨#[97]⟩]) := Lib.hid (Rp.str.slice.kept HRN2.out hu12.kp (fun k hk _ h => by have := HFL.out k h; omega))
    have HM12 := Lib.hid hm12
    clear hm12 hu12 HAK HM11 HK11 HRN2
    go_upto_region 13 with fail
    obtain ⟨z, hz⟩ : ∃ v, w12.heap.size = v := ⟨_, rfl⟩
    obtain ⟨w13, hw13⟩ : ∃ v, w12.alloc (.cells #[.int .i64 4, .int .i64 0, .int .i64 0, .string { data := #[97] }, .string { data := #[] }, .int .i64 0, .int .i64 0] 52) = v := ⟨_, rfl⟩
    have hk13 : Kp No w12 w13 := by rw [← hw13]; exact (Kp.refl _ _).alloc _
    have hbz : Blk w13 z 52 [.int .i64 4, .int .i64 0, .int .i64 0, .string { data := #[97] }, .string { data := #[] }, .int .i64 0, .int .i64 0] := by rw [← hw13, ← hz]; exact Blk.new w12 _ _
    rw [hw13, hz]
    obtain ⟨wd, hwd⟩ : ∃ v, w13.drew = v := ⟨_, rfl⟩
    have hkd : Kp No w13 wd := by rw [← hwd]; exact (Kp.refl _ _).drew
    have HBZ := Lib.hid (hbz.kept hkd (fun z => z))
    have HMD := Lib.hid ((HM12.out.keptNo hk13).keptNo hkd)
    have HKD := Lib.hid ((HK12.out.trans' hk13).trans' hkd)
    have HRN4 := Lib.hid (Rp.str.slice.keptNo HRN3.out (hk13.trans' hkd))
    have hj := fun (W : World) (hk : Kp No wd W) => m_judge4 askR rfl (2, 1) m M3 F4 W (HMD.out.keptNo hk) (OkM.asked HO2.out _)
    have hj2 := fun (W : World) (hk : Kp No wd W) => m_judge4 askR rfl (2, 2) m M3 F4 W (HMD.out.keptNo hk) (OkM.asked HO2.out _)
    have ea : judge4 M3 (2, 1) askR.name = 0 := judge_a
    have eb : judge4 M3 (2, 2) askR.name = 200 := judge_b
    simp only [ea] at hj
    simp only [eb] at hj2
    unfold askV at hj hj2
    have HJ := Lib.hid hj
    have HJ2 := Lib.hid hj2
    clear hk13 hbz hkd hj hj2 ea eb hw13 hz HM12 HK12
    have z0 : wd.cell? ⟨z, 0, none⟩ = some _ := Blk.cell HBZ.out rfl
    have z1 : wd.cell? ⟨z, 1, none⟩ = some _ := Blk.cell HBZ.out rfl
    have z2 : wd.cell? ⟨z, 2, none⟩ = some _ := Blk.cell HBZ.out rfl
    have z3 : wd.cell? ⟨z, 3, none⟩ = some _ := Blk.cell HBZ.out rfl
    have z4 : wd.cell? ⟨z, 4, none⟩ = some _ := Blk.cell HBZ.out rfl
    have z5 : wd.cell? ⟨z, 5, none⟩ = some _ := Blk.cell HBZ.out rfl
    have z6 : wd.cell? ⟨z, 6, none⟩ = some _ := Blk.cell HBZ.out rfl
    refine Reg.wp_region_plan [⟨0, false, []⟩, ⟨1, false, []⟩, ⟨2, false, []⟩, ⟨3, false, []⟩, ⟨5, false, []⟩, ⟨6, false, []⟩, ⟨7, false, []⟩, ⟨8, false, []⟩, ⟨4, true, [6, 7, 8]⟩, ⟨9, true, []⟩, ⟨10, false, []⟩, ⟨11, false, []⟩] rfl (by kernel_rfl) ?_
    rw [hwd]
    clear hwd
    repeat (first | (refine Reg.look rfl rfl rfl (by go_simp; rfl) rfl ?_; go_simp) | (refine Reg.skip rfl rfl rfl ?_; go_simp))
    refine Reg.act rfl ?_
    go_wp2_with fail
    refine (HJ.out wd (Kp.refl _ _)).mono ?_
    rintro e w14 ⟨rfl, hk14⟩
    have HKE := Lib.hid hk14
    have HBZ := Lib.hid (HBZ.out.kept hk14 (fun z => z))
    clear z0 z1 z2 z3 z4 z5 z6 hk14
    have z0 : w14.cell? ⟨z, 0, none⟩ = some _ := Blk.cell HBZ.out rfl
    have z1 : w14.cell? ⟨z, 1, none⟩ = some _ := Blk.cell HBZ.out rfl
    have z2 : w14.cell? ⟨z, 2, none⟩ = some _ := Blk.cell HBZ.out rfl
    have z3 : w14.cell? ⟨z, 3, none⟩ = some _ := Blk.cell HBZ.out rfl
    have z4 : w14.cell? ⟨z, 4, none⟩ = some _ := Blk.cell HBZ.out rfl
    have z5 : w14.cell? ⟨z, 5, none⟩ = some _ := Blk.cell HBZ.out rfl
    have z6 : w14.cell? ⟨z, 6, none⟩ = some _ := Blk.cell HBZ.out rfl
    go_wp2_with fail
    (refine ⟨?anew, ?_⟩; case anew => ((repeat (refine Reg.anew_cons rfl rfl (fun _ => by go_simp) ?_)); exact Reg.anew_nil))
    repeat (first | (refine Reg.look rfl rfl rfl (by go_simp; rfl) rfl ?_; go_simp) | (refine Reg.skip rfl rfl rfl ?_; go_simp))
    refine Reg.act rfl ?_
    go_wp2_with fail
    refine (HJ2.out w14 HKE.out).mono ?_
    rintro e w15 ⟨rfl, hk15⟩
    have HKF := Lib.hid ((HKD.out.trans' HKE.out).trans' hk15)
    have hrn : Rp.str.slice.R w15 (fun k => w9.heap.size ≤ k) [.slice A ([⟨#[97]⟩] : List ByteArray).length c] [⟨#[97]⟩] := Rp.str.slice.keptNo HRN4.out (HKE.out.trans' hk15)
    obtain ⟨ad, hA, _, hc0, _⟩ := Rp.at_str hrn (i := 0) (a := ⟨#[97]⟩) rfl
    subst hA
    have c0 : w15.cell? ad = some (.string { data := #[97] }) := hc0
    clear hk15 hrn hc0 z0 z1 z2 z3 z4 z5 z6
    go_wp2_with fail
    (refine ⟨?anew, ?_⟩; case anew => ((repeat (refine Reg.anew_cons rfl rfl (fun _ => by go_simp) ?_)); exact Reg.anew_nil))
    repeat (first | (refine Reg.look rfl rfl rfl (by go_simp; rfl) rfl ?_; go_simp) | (refine Reg.skip rfl rfl rfl ?_; go_simp))
    (refine Reg.done ?_; simp only [Exit.then])
    go_wp2_with fail
    go_ret
    exact ⟨rfl, HKF.out⟩
end

section
open Go.RowKit Go.ChangeShapes Go.WideShapes Go.ChangeAt

theorem live_look2 {w : World} {S : Nat → Prop} {b : Nat} {V : List (ByteArray × OpL)} (h : MapRp Rp.opl w S b Value.string V) (nm : ByteArray) : ∃ (o : OpL) (A : Option Addr) (n c : Nat) (B : Bool),
    (∀ w', Kp No w w' → (Instr.lookup 129 (.map (some b)) (.string nm) true).run Try.prog w' = .ok (.tuple #[opV o (.slice A n c), .bool B]) w') ∧ n = o.hashes.length ∧ Rp.str.slice.R w S [.slice A n c] o.hashes ∧ ((B = true ∧ mget nm V = some o) ∨ (B = false ∧ mget nm V = none ∧ o = zeroO)) := by
  obtain ⟨u, B, h3, h4⟩ := h.look_all (P := Try.prog) key_text Try.underlying129 nm zero_opM
  rcases h4 with ⟨rfl, a, cs, h5, rfl, hv, rfl, _, h6⟩ | ⟨rfl, h5, rfl⟩
  · obtain ⟨Av, cv, hv', _⟩ := id h6
    simp only [List.cons.injEq, and_true] at hv'
    subst hv'
    exact ⟨a, Av, _, cv, true, h3, rfl, h6, .inl ⟨rfl, h5⟩⟩
  · exact ⟨zeroO, none, 0, 0, false, h3, rfl, Rp.none_ _ _ _, .inr ⟨rfl, h5, rfl⟩⟩
/-- what Find tells -/
def findM (M : MV) (p : Int × Int) (nm : ByteArray) : Option OpL := mget nm (liveL1 (pathD M p))
set_option maxRecDepth 100000 in
set_option maxHeartbeats 4000000 in
theorem m_find (p : Int × Int) (nm : ByteArray) (m : Nat) (M : MV) (F : Nat → Prop) (w : World) (hM : MAt w m M F) (hok : OkM M) : Calls Try.prog 31 #[.pointer (some ⟨m, 0, none⟩), spotV p, .string nm] w fun e w' => ∃ (A : Option Addr) (c : Nat), e = .returned (.tuple #[opV ((findM M p nm).getD zeroO) (.slice A ((findM M p nm).getD zeroO).hashes.length c), .bool (findM M p nm).isSome]) ∧ Rp.str.slice.R w' (fun k => w.heap.size ≤ k) [.slice A ((findM M p nm).getD zeroO).hashes.length c] ((findM M p nm).getD zeroO).hashes ∧ Kp No w w' := by
  have HLV := fun w' (hk : Kp No w w') => Lib.hid (m_live p m M F w' (hM.keptNo hk) hok)
  obtain ⟨R, hR⟩ : ∃ R, findM M p nm = R := ⟨_, rfl⟩
  rw [hR]
  have HRR := Lib.hid hR
  unfold spotV at *
  clear hM hok hR
  go_enter Try.func31, Try.ntmps31
  go_wp2_with fail
  obtain ⟨at_, hat⟩ : ∃ v, w.heap.size = v := ⟨_, rfl⟩
  obtain ⟨y, hy⟩ : ∃ v, w.heap.size + 1 = v := ⟨_, rfl⟩
  obtain ⟨wa, hwa⟩ : ∃ v, (w.alloc (.cells #[.int .i64 p.1, .int .i64 p.2] 54)).alloc (.cells #[.int .i64 0, .int .i64 0, .int .i64 0, .int .i64 0, .int .i64 0, .int .i64 0, .string { data := #[] }, .int .i64 0, .slice none 0 0] 38) = v := ⟨_, rfl⟩
  have hka : Kp No w wa := by rw [← hwa]; exact ((Kp.refl _ _).alloc _).alloc _
  have hby : Blk wa y 38 [.int .i64 0, .int .i64 0, .int .i64 0, .int .i64 0, .int .i64 0, .int .i64 0, .string { data := #[] }, .int .i64 0, .slice none 0 0] := by
    have h := Blk.new (w.alloc (.cells #[.int .i64 p.1, .int .i64 p.2] 54)) [.int .i64 0, .int .i64 0, .int .i64 0, .int .i64 0, .int .i64 0, .int .i64 0, .string { data := #[] }, .int .i64 0, .slice none 0 0] 38
    rw [← hwa, ← hy]
    simpa using h
  try rw [hwa]
  try rw [hy]
  try rw [hat]
  refine (HLV wa hka).out.mono ?_
  rintro e w2 ⟨b, rfl, _, hmp, hk2⟩
  obtain ⟨o, A, n, c, B, hlk, hn, hrd, hB⟩ := live_look2 hmp nm
  have hRB : R = (if B = true then some o else none) ∧ R.getD zeroO = o ∧ R.isSome = B := by
    have h := HRR.out
    unfold findM at h
    rcases hB with ⟨rfl, h1⟩ | ⟨rfl, h1, rfl⟩
    · rw [← h, h1]; exact ⟨rfl, rfl, rfl⟩
    · rw [← h, h1]; exact ⟨rfl, rfl, rfl⟩
  have HR1 := Lib.hid hRB.2.1
  have HR2 := Lib.hid hRB.2.2
  clear hRB
  subst hn
  unfold opV at hlk
  have hl := hlk w2 (Kp.refl _ _)
  go_upto_region 3 with fail
  obtain ⟨z, hz⟩ : ∃ v, w2.heap.size = v := ⟨_, rfl⟩
  obtain ⟨w3, hw3⟩ : ∃ v, w2.alloc (.cells #[.int .i64 o.n, .int .i64 o.epoch, .int .i64 o.kind, .int .i64 o.site, .int .i64 o.client, .int .i64 o.seq, .string o.name, .int .i64 o.size, .slice A o.hashes.length c] 38) = v := ⟨_, rfl⟩
  have hk3 : Kp No w2 w3 := by rw [← hw3]; exact (Kp.refl _ _).alloc _
  have hbz : Blk w3 z 38 [.int .i64 o.n, .int .i64 o.epoch, .int .i64 o.kind, .int .i64 o.site, .int .i64 o.client, .int .i64 o.seq, .string o.name, .int .i64 o.size, .slice A o.hashes.length c] := by rw [← hw3, ← hz]; exact Blk.new w2 _ _
  try rw [hw3]
  try rw [hz]
  have hby3 := hby.kept (hk2.trans' hk3) (fun z => z)
  have hst := run_store_opAt w3 y 0 o A o.hashes.length c zeroO (.slice none 0 0) (fun k u hu => by
    have := hby3.cell (i := k) (u := u) hu
    simpa using this) (Blk.fr hby3)
  have hb4 := wset_blk (vs := o.cells (.slice A o.hashes.length c)) (o := 0) hby3
  have hk4 : Kp (· = y) w3 (wset w3 y 0 (o.cells (.slice A o.hashes.length c))) := wset_kp
  have hyw : w.heap.size ≤ y := by omega
  have hyA : y < wa.heap.size := Blk.lt hby
  have hr4 : Rp.str.slice.R (wset w3 y 0 (o.cells (.slice A o.hashes.length c))) (fun k => w.heap.size ≤ k) [.slice A o.hashes.length c] o.hashes := Rp.str.slice.more (Rp.str.slice.kept (Rp.str.slice.keptNo hrd hk3) hk4 (fun k hk _ e => by have := hk.1; omega)) (fun k hk => by have := hk.1; have := hka.size; omega)
  obtain ⟨w4, hw4⟩ : ∃ v, wset w3 y 0 (o.cells (.slice A o.hashes.length c)) = v := ⟨_, rfl⟩
  rw [hw4] at hst hb4 hk4 hr4
  have HLD := Lib.hid (run_load_op hbz)
  have HST := Lib.hid hst
  have HR4 := Lib.hid hr4
  have HB4 : Hid (Blk w4 y 38 [.int .i64 o.n, .int .i64 o.epoch, .int .i64 o.kind, .int .i64 o.site, .int .i64 o.client, .int .i64 o.seq, .string o.name, .int .i64 o.size, .slice A o.hashes.length c]) := Lib.hid hb4
  have HK4 : Hid (Kp No w w4) := Lib.hid (((hka.trans' hk2).trans' hk3).trans hk4 (fun k hk e => by omega))
  clear hka hby hwa hmp hk2 hlk hB hl hk3 hbz hby3 hst hb4 hk4 hw4 hw3 hz hy hat HLV hrd hr4 hyw hyA
  go_wp2_with (first | (refine wpl_load (by first | rfl | go_simp) 38 _ rfl _ _ rfl HLD.out ?_; go_simp) | (refine wpl_store (by first | rfl | go_simp) 38 _ _ rfl _ _ rfl rfl HST.out ?_; go_simp))
  exact bodyPost_ret (results_ctM rfl _ _ y _ _ _ _ rfl HB4.out Try.underlying38 rfl (by kernel_rfl)) rfl ⟨A, c, by rw [HR1.out, HR2.out]; rfl, by rw [HR1.out]; exact HR4.out, HK4.out⟩
end
end Go.Proofs.Ytbncblnchcmgbaa
