/-
  Put together: Mod5, Mod6.
-/
import Derived.Test.YtamfgmlhopjppaaGD
import Derived.Test.YtamfgmlhopjppaaGE
namespace Go.Proofs.Ytamfgmlhopjppaa
section
open Go.RowKit Go.ChangeShapes Go.WideShapes Go.ChangeAt

def pathL (ls : List ((Int × Int) × LineL)) : Nat → Int × Int → Option (List OpL)
  | 0, p => if p = (0, 0) then some [] else none
  | f + 1, p => if p = (0, 0) then some [] else match mget p ls with
    | none => none
    | some l => (pathL ls f (l.an, l.ae)).map (l.op :: ·)
def pathM (M : MV) (p : Int × Int) : Option (List OpL) := (pathL M.lines p.1.toNat p).map List.reverse
theorem pathL_none {ls : List ((Int × Int) × LineL)} {f : Nat} {p : Int × Int} (hp : p ≠ (0, 0)) (h : mget p ls = none) : pathL ls f p = none := by
  cases f with
  | zero => unfold pathL; rw [if_neg hp]
  | succ f => unfold pathL; rw [if_neg hp, h]
theorem pathL_zero (ls : List ((Int × Int) × LineL)) (f : Nat) : pathL ls f (0, 0) = some [] := by
  cases f with
  | zero => unfold pathL; rw [if_pos rfl]
  | succ f => unfold pathL; rw [if_pos rfl]
theorem pathL_some {M : MV} (hok : OkM M) {p : Int × Int} {l : LineL} (hp : p ≠ (0, 0)) (h : mget p M.lines = some l) : pathL M.lines p.1.toNat p = (pathL M.lines (l.an).toNat (l.an, l.ae)).map (l.op :: ·) := by
  have h1 := hok.low p l h
  have h2 := hok.ahead p l h
  obtain ⟨f, hf⟩ : ∃ f, p.1.toNat = f + 1 := ⟨p.1.toNat - 1, by omega⟩
  rw [hf]
  conv => lhs; unfold pathL
  rw [if_neg hp, h]
  have : l.an.toNat = f := by omega
  rw [this]
def NewY (w0 w : World) (v : Value) (y : Nat) : Nat → Prop := fun k => NewX w0 w v k ∧ k ≠ y
/-- what Path tells -/
def PathP (w w' : World) (R : Option (List OpL)) (e : Ending) : Prop := match R with
  | none => e = .returned (.tuple #[.slice none 0 0, .bool false])
  | some L => ∃ A c, e = .returned (.tuple #[.slice A L.length c, .bool true]) ∧ Rp.opl.slice.R w' (fun k => w.heap.size ≤ k) [.slice A L.length c] L
set_option maxRecDepth 100000 in
theorem m_path_nil (p : Int × Int) (w : World) : Calls Try.prog 16 #[.pointer none, spotV p] w fun e w' => e = .returned (.tuple #[.slice none 0 0, .bool false]) ∧ Kp No w w' := by
  unfold spotV
  have HK : Hid (Kp No w (w.alloc (.cells #[.int .i64 p.1, .int .i64 p.2] 37))) := Lib.hid ((Kp.refl _ _).alloc _)
  go_enter Try.func16, Try.ntmps16
  go_wp2_with fail
  exact bodyPost_ret (results_tmp2 rfl _ _ _) rfl ⟨rfl, HK.out⟩
set_option maxRecDepth 100000 in
set_option maxHeartbeats 8000000 in
theorem m_path (p : Int × Int) (m : Nat) (M : MV) (F : Nat → Prop) (w : World) (hM : MAt w m M F) (hok : OkM M) :
    Calls Try.prog 16 #[.pointer (some ⟨m, 0, none⟩), spotV p] w fun e w' => PathP w w' (pathM M p) e ∧ Kp No w w' := by
  obtain ⟨R, hR⟩ : ∃ R, pathM M p = R := ⟨_, rfl⟩
  rw [hR]
  have HM := Lib.hid hM
  have HOK := Lib.hid hok
  obtain ⟨at_, hat⟩ : ∃ v, w.heap.size = v := ⟨_, rfl⟩
  obtain ⟨wa, hwa⟩ : ∃ v, w.alloc (.cells #[.int .i64 p.1, .int .i64 p.2] 37) = v := ⟨_, rfl⟩
  have HKA : Hid (Kp No w wa) := Lib.hid (by rw [← hwa]; exact (Kp.refl _ _).alloc _)
  have HBA : Hid (Blk wa at_ 37 [.int .i64 p.1, .int .i64 p.2]) := Lib.hid (by rw [← hwa, ← hat]; exact Blk.new w _ _)
  have HAT := Lib.hid hat
  have HRP : Hid (R = (pathL M.lines p.1.toNat p).map (fun r => ([] ++ r).reverse)) := Lib.hid (by rw [← hR]; rfl)
  unfold spotV
  clear hM hok hR
  go_enter Try.func16, Try.ntmps16
  go_wp2_with fail
  clear hwa hat
  go_loopw [6] (fun ov wr => ∃ (acc : List OpL) (q : Int × Int), Hid (Blk wr at_ 37 [.int .i64 q.1, .int .i64 q.2]) ∧ Hid (Own Rp.opl wr (NewY w wr ov at_) w.heap.size 58 ov acc) ∧ Hid (ov.ownBlock ≠ some at_) ∧ Hid (Kp No w wr) ∧ Hid (R = (pathL M.lines q.1.toNat q).map (fun r => (acc ++ r).reverse)) ∧ Hid (acc = [] ∨ acc.length + q.1.toNat ≤ 1000000))
    (fun _ wr => match wr.cell? ⟨at_, 0, none⟩ with | some (.int _ x) => x.toNat | _ => 0)
  case atStart => exact ⟨[], p, HBA, Lib.hid (Own.nil _ _ _ _ _), Lib.hid (by simp [Value.ownBlock]), HKA, HRP, Lib.hid (.inl rfl)⟩
  case round =>
    clear HBA HKA HRP
    obtain ⟨acc, ⟨q1, q2⟩, HB, HO, HOA, HKR, HRQ, HLEN⟩ := hrel
    obtain ⟨Av, cv, rfl⟩ := HO.out.shape
    have s0 : wr.cell? ⟨at_, 0, none⟩ = some _ := Blk.cell HB.out rfl
    have s1 : wr.cell? ⟨at_, 1, none⟩ = some _ := Blk.cell HB.out rfl
    have HS0 : Hid (wr.cell? ⟨at_, 0, none⟩ = some (.int .i64 q1)) := Lib.hid s0
    by_cases hq : (q1, q2) = ((0 : Int), (0 : Int))
    · simp only [Prod.mk.injEq] at hq
      obtain ⟨rfl, rfl⟩ := hq
      have hR : R = some acc.reverse := by rw [HRQ.out, pathL_zero, Option.map_some, List.append_nil]
      subst hR
      have HREV : Hid (Calls Try.prog 42 #[.slice Av acc.length cv] wr fun e w' => e = .returned (.tuple #[]) ∧ Rp.opl.slice.R w' (fun k => w.heap.size ≤ k) [.slice Av acc.length cv] acc.reverse ∧ Kp No w w') := Lib.hid (by
        rcases Nat.eq_zero_or_pos acc.length with h0 | h0
        · have hnil : acc = [] := List.eq_nil_of_length_eq_zero h0
          subst hnil
          refine (m_rev0 cv Av wr).mono ?_
          rintro e w' ⟨rfl, rfl⟩
          exact ⟨rfl, Rp.opl.slice.more HO.out.readFrom (fun k hk => by
            rcases hk with hk | hk
            · exact hk.1.1
            · exact hk), HKR.out⟩
        · obtain ⟨g, c, hv, hnc, hm, hob, hrow⟩ := RowG.of_own HO.out h0
          injection hv with hA _ hc
          subst hA hc
          have hgb := HO.out.lt g hob
          refine (m_rev acc acc.length g cv _ wr (by
            rcases HLEN.out with h | h
            · rw [h]; simp
            · omega) hrow (fun h => h.1.2.2 hob) h0).mono ?_
          rintro e w' ⟨rfl, hr, hk⟩
          exact ⟨rfl, Rp.opl.slice.more (hr.read hnc hm) (fun k hk => by
            rcases hk with hk | hk
            · exact hk.1.1
            · rw [hk]; exact hgb.1), HKR.out.trans hk (fun k hk e => by omega)⟩)
      clear HO HOA HB HRQ HLEN
      go_wp2_with fail
      refine HREV.out.mono ?_
      rintro e w2 ⟨rfl, hr2, hk2⟩
      have HR2 := Lib.hid hr2
      have HK2 := Lib.hid hk2
      clear hr2 hk2 HREV s0 s1
      go_wp2_with fail
      refine bodyPost_ret (results_tmp2 rfl _ _ _) rfl ⟨?_, HK2.out⟩
      unfold PathP
      exact ⟨Av, cv, by rw [List.length_reverse]; rfl, by rw [List.length_reverse]; exact HR2.out⟩
    · go_upto_region 4 with fail
      go_cut [14] (fun bv wx => bv = .bool true ∧ wx = wr)
      case first =>
        by_cases h1 : q1 = 0
        · have h2 : (q2 == 0) = false := beq_eq_false_iff_ne.2 (fun h2 => hq (by rw [h1, h2]))
          subst h1
          go_wp2_with fail
          go_meet
          exact ⟨rfl, rfl⟩
        · have h2 : (q1 == 0) = false := beq_eq_false_iff_ne.2 h1
          go_wp2_with fail
          go_meet
          exact ⟨rfl, rfl⟩
      case rest =>
        obtain ⟨rfl, rfl⟩ := hcut
        obtain ⟨wr, rfl⟩ : ∃ v, v = wc := ⟨_, rfl⟩
        obtain ⟨bb, av, S, hin, hft⟩ := HM.out.keptNo HKR.out
        obtain ⟨was, A6, n6, c6, B, hlook, hB⟩ := hin.look (q1, q2)
        unfold spotV at hlook
        have HBM := Lib.hid hin.blk
        have HNU : Hid (∀ a, mget (q1, q2) M.lines = some a → a.nums) := Lib.hid (fun a ha => hin.nums ha)
        have HBQ := Lib.hid hB
        have HLOOK := Lib.hid hlook
        have HMA : Hid (m ≠ at_) := Lib.hid (by
          have h1 := HM.out.lt (k := m) (by obtain ⟨_, _, _, _, h⟩ := HM.out; exact (h m).2 (.inl rfl))
          have h2 := HAT.out
          omega)
        clear hin hft hB hlook s0 s1
        go_upto_region 5 with fail
        obtain ⟨wd, hwd⟩ : ∃ v, wr.drew = v := ⟨_, rfl⟩
        have HKD : Hid (Kp No wr wd) := Lib.hid (by rw [← hwd]; exact (Kp.refl _ _).drew)
        have k0 : wd.cell? ⟨m, 0, none⟩ = some _ := Blk.cell (HBM.out.kept HKD.out (fun z => z)) rfl
        have s0 : wd.cell? ⟨at_, 0, none⟩ = some _ := Blk.cell (HB.out.kept HKD.out (fun z => z)) rfl
        have s1 : wd.cell? ⟨at_, 1, none⟩ = some _ := Blk.cell (HB.out.kept HKD.out (fun z => z)) rfl
        have hl := HLOOK.out wd HKD.out
        refine Reg.wp_region_plan [⟨0, false, []⟩, ⟨1, false, []⟩, ⟨2, false, []⟩, ⟨3, false, []⟩, ⟨4, false, []⟩, ⟨5, false, []⟩, ⟨6, false, []⟩, ⟨7, false, []⟩, ⟨8, false, []⟩, ⟨9, true, [1, 2, 3, 4, 5, 7, 8]⟩, ⟨10, true, [8]⟩, ⟨11, false, []⟩] rfl (by kernel_rfl) ?_
        rw [hwd]
        clear hwd
        repeat (first | (refine Reg.look rfl rfl rfl (by go_simp; rfl) rfl ?_; go_simp) | (refine Reg.skip rfl rfl rfl ?_; go_simp))
        obtain ⟨z, hz⟩ : ∃ v, wd.heap.size = v := ⟨_, rfl⟩
        obtain ⟨w5, hw5⟩ : ∃ v, wd.alloc (.cells #[.int .i64 0, .int .i64 0, .int .i64 0, .int .i64 0, .int .i64 0, .int .i64 0, .string { data := #[] }, .int .i64 0, .slice none 0 0, .int .i64 0, .int .i64 0] 71) = v := ⟨_, rfl⟩
        have HBZ : Hid (Blk w5 z 71 [.int .i64 0, .int .i64 0, .int .i64 0, .int .i64 0, .int .i64 0, .int .i64 0, .string { data := #[] }, .int .i64 0, .slice none 0 0, .int .i64 0, .int .i64 0]) := Lib.hid (by rw [← hw5, ← hz]; exact Blk.new wd _ _)
        have HK5 : Hid (Kp No wr w5) := Lib.hid (by rw [← hw5]; exact HKD.out.alloc _)
        have HZW : Hid (wr.heap.size ≤ z) := Lib.hid (by rw [← hz]; exact HKD.out.size)
        refine Reg.act rfl ?_
        go_wp2_with fail
        clear k0 s0 s1 hl hw5 hz
        have k0 : w5.cell? ⟨m, 0, none⟩ = some _ := Blk.cell (HBM.out.kept HK5.out (fun z => z)) rfl
        have s0 : w5.cell? ⟨at_, 0, none⟩ = some _ := Blk.cell (HB.out.kept HK5.out (fun z => z)) rfl
        have s1 : w5.cell? ⟨at_, 1, none⟩ = some _ := Blk.cell (HB.out.kept HK5.out (fun z => z)) rfl
        have hl := HLOOK.out w5 HK5.out
        (refine ⟨?anew, ?_⟩; case anew => ((repeat (refine Reg.anew_cons rfl rfl (fun _ => by go_simp) ?_)); exact Reg.anew_nil))
        repeat (first | (refine Reg.look rfl rfl rfl (by go_simp; rfl) rfl ?_; go_simp) | (refine Reg.skip rfl rfl rfl ?_; go_simp))
        have hst := run_store_line w5 z 0 was A6 n6 c6 _ _ _ _ _ _ _ _ _ _ _ (Blk.cell HBZ.out (i := 0) rfl) (Blk.cell HBZ.out (i := 1) rfl) (Blk.cell HBZ.out (i := 2) rfl) (Blk.cell HBZ.out (i := 3) rfl) (Blk.cell HBZ.out (i := 4) rfl) (Blk.cell HBZ.out (i := 5) rfl) (Blk.cell HBZ.out (i := 6) rfl) (Blk.cell HBZ.out (i := 7) rfl) (Blk.cell HBZ.out (i := 8) rfl) (Blk.cell HBZ.out (i := 9) rfl) (Blk.cell HBZ.out (i := 10) rfl) (Blk.fr HBZ.out)
        obtain ⟨w6, hw6⟩ : ∃ v, wset w5 z 0 (was.cells (.slice A6 n6 c6)) = v := ⟨_, rfl⟩
        have hb6 := wset_blk (vs := was.cells (.slice A6 n6 c6)) (o := 0) HBZ.out
        have hk6 : Kp (· = z) w5 (wset w5 z 0 (was.cells (.slice A6 n6 c6))) := wset_kp
        rw [hw6] at hst hb6 hk6
        have HB6 : Hid (Blk w6 z 71 [.int .i64 was.op.n, .int .i64 was.op.epoch, .int .i64 was.op.kind, .int .i64 was.op.site, .int .i64 was.op.client, .int .i64 was.op.seq, .string was.op.name, .int .i64 was.op.size, .slice A6 n6 c6, .int .i64 was.an, .int .i64 was.ae]) := Lib.hid hb6
        have HK6 : Hid (Kp No wr w6) := Lib.hid (HK5.out.trans hk6 (fun k hk e => by have := HZW.out; omega))
        have HST := Lib.hid hst
        clear hst hb6 hk6 hw6 k0 s0 s1 hl
        refine Reg.act rfl ?_
        go_wp2_with (refine wpl_store (by first | rfl | go_simp) 71 _ _ rfl _ _ (by go_simp) (by go_simp) HST.out ?_; go_simp)
        (refine ⟨?anew, ?_⟩; case anew => ((repeat (refine Reg.anew_cons rfl rfl (fun _ => by go_simp) ?_)); exact Reg.anew_nil))
        repeat (first | (refine Reg.look rfl rfl rfl (by go_simp; rfl) rfl ?_; go_simp) | (refine Reg.skip rfl rfl rfl ?_; go_simp))
        (refine Reg.done ?_; simp only [Exit.then])
        cases B
        case false =>
          have hR : R = none := by
            rcases HBQ.out with h | ⟨_, h⟩
            · cases h.1
            · rw [HRQ.out, pathL_none hq h]; rfl
          subst hR
          go_wp2_with fail
          exact bodyPost_ret (results_tmp2 rfl _ _ _) rfl ⟨by unfold PathP; rfl, HKR.out.trans' HK6.out⟩
        case true =>
          obtain ⟨hg5, rfl, hr6⟩ : mget (q1, q2) M.lines = some was ∧ n6 = was.op.hashes.length ∧ Rp.str.slice.R wr S [.slice A6 n6 c6] was.op.hashes := by
            rcases HBQ.out with h | h
            · exact h.2
            · cases h.1
          have hlow := HOK.out.low _ _ hg5
          have hah := HOK.out.ahead _ _ hg5
          have hhs := HOK.out.hashes _ _ hg5
          simp only at hlow hah
          have hnu := HNU.out _ hg5
          have HRQ2 : Hid (R = (pathL M.lines was.an.toNat (was.an, was.ae)).map (fun r => ((acc ++ [was.op]) ++ r).reverse)) := Lib.hid (by
            have h1 := HRQ.out
            have h2 := pathL_some HOK.out hq hg5
            simp only at h1 h2
            rw [h1, h2, Option.map_map]
            congr 1
            funext r
            simp)
          have HLEN2 : Hid ((acc ++ [was.op]) = [] ∨ (acc ++ [was.op]).length + was.an.toNat ≤ 1000000) := Lib.hid (.inr (by
            rw [List.length_append, List.length_singleton]
            have h1 := HLEN.out
            try simp only at h1
            rcases h1 with h1 | h1
            · rw [h1]; simp; omega
            · omega))
          have hacc : acc.length ≤ 1000000 := by
            have h1 := HLEN.out
            try simp only at h1
            rcases h1 with h1 | h1
            · rw [h1]; simp
            · omega
          have HMEA : Hid (was.an.toNat < q1.toNat) := Lib.hid (by omega)
          obtain ⟨o, ho⟩ : ∃ v, was.op = v := ⟨_, rfl⟩
          obtain ⟨oan, hoan⟩ : ∃ v, was.an = v := ⟨_, rfl⟩
          obtain ⟨oae, hoae⟩ : ∃ v, was.ae = v := ⟨_, rfl⟩
          rw [ho] at hhs hr6 HB6
          rw [hoan, hoae] at HB6
          rw [ho, hoan] at HLEN2
          rw [ho, hoan, hoae] at HRQ2
          rw [hoan] at HMEA
          have hno : o.nums := by rw [← ho]; exact hnu.1
          have HNO := Lib.hid hno
          have HHS : Hid (o.hashes.length ≤ 1000000) := Lib.hid hhs
          have hld := run_load_lop HB6.out
          unfold opV at hld
          have HLD := Lib.hid hld
          obtain ⟨y, hy⟩ : ∃ v, w6.heap.size = v := ⟨_, rfl⟩
          obtain ⟨w7, hw7⟩ : ∃ v, w6.alloc (.cells #[.int .i64 o.n, .int .i64 o.epoch, .int .i64 o.kind, .int .i64 o.site, .int .i64 o.client, .int .i64 o.seq, .string o.name, .int .i64 o.size, .slice A6 o.hashes.length c6] 58) = v := ⟨_, rfl⟩
          have hk7 : Kp No w6 w7 := by rw [← hw7]; exact (Kp.refl _ _).alloc _
          have hb7 : Blk w7 y 58 [.int .i64 o.n, .int .i64 o.epoch, .int .i64 o.kind, .int .i64 o.site, .int .i64 o.client, .int .i64 o.seq, .string o.name, .int .i64 o.size, .slice A6 o.hashes.length c6] := by rw [← hw7, ← hy]; exact Blk.new w6 _ _
          have y8 : w7.cell? ⟨y, 8, none⟩ = some _ := Blk.cell hb7 rfl
          have HB7 := Lib.hid hb7
          have HK7 := Lib.hid hk7
          have HYW : Hid (w6.heap.size ≤ y) := Lib.hid (Nat.le_of_eq hy)
          have hcl := c_cloneS o.hashes A6 c6 w7 S (Rp.str.slice.keptNo hr6 (HK6.out.trans' hk7)) hhs
          have HCL := Lib.hid hcl
          clear hg5 hr6 hlow hah hnu ho hoan hoae hno hhs hld hk7 hb7 hcl HRQ HLEN HBQ HNU HLOOK HBZ
          go_wp2_with (refine wpl_load (by first | rfl | go_simp) 58 _ rfl _ _ rfl HLD.out ?_; go_simp)
          clear hw7 hy HLD
          refine HCL.out.mono ?_
          rintro e w8 ⟨A7, c7, rfl, hown, hk8⟩
          have hb8 := HB7.out.kept hk8 (fun z => z)
          have y8 : w8.cell? ⟨y, 8, none⟩ = some _ := Blk.cell hb8 rfl
          have g8 := Blk.fr hb8 8
          obtain ⟨w9, hw9⟩ : ∃ v, w8.setCell ⟨y, 8, none⟩ (.slice A7 o.hashes.length c7) = v := ⟨_, rfl⟩
          have hb9 : Blk w9 y 58 [.int .i64 o.n, .int .i64 o.epoch, .int .i64 o.kind, .int .i64 o.site, .int .i64 o.client, .int .i64 o.seq, .string o.name, .int .i64 o.size, .slice A7 o.hashes.length c7] := by rw [← hw9]; exact Blk.set hb8 8 (.slice A7 o.hashes.length c7)
          have hk9 : Kp (· = y) w8 w9 := by rw [← hw9]; exact (Kp.refl (· = y) w8).setCell (p := ⟨y, 8, none⟩) (fun _ => rfl) _
          have hyw7 : y < w7.heap.size := Blk.lt HB7.out
          have hsz6 := HK6.out.size
          have hyw := HYW.out
          have hzl : z < w6.heap.size := Blk.lt HB6.out
          have hal : at_ < wr.heap.size := Blk.lt HB.out
          have hwr := HKR.out.size
          have hsz8 := hk8.size
          have hsz9 := hk9.size
          obtain ⟨g1, hg1⟩ : ∃ v, w9.heap.size = v := ⟨_, rfl⟩
          obtain ⟨w10, hw10⟩ : ∃ v, w9.alloc (.cells #[.int .i64 o.n, .int .i64 o.epoch, .int .i64 o.kind, .int .i64 o.site, .int .i64 o.client, .int .i64 o.seq, .string o.name, .int .i64 o.size, .slice A7 o.hashes.length c7] 58) = v := ⟨_, rfl⟩
          have hk10 : Kp No w9 w10 := by rw [← hw10]; exact (Kp.refl _ _).alloc _
          have hsz10 : w10.heap.size = g1 + 1 := by rw [← hw10, ← hg1]; simp
          have hovl : ∀ k, (Value.slice Av acc.length cv).ownBlock = some k → k < wr.heap.size := fun k hk => (HO.out.lt k hk).2
          have hr9 : Rp.str.slice.R w9 (fun k => w7.heap.size ≤ k ∧ k < w8.heap.size) [.slice A7 o.hashes.length c7] o.hashes := by
            have h := (hown.str_any (fun k => w7.heap.size ≤ k ∧ k < w8.heap.size)).read (fun k hk => hown.lt k hk)
            exact Rp.str.slice.kept h hk9 (fun k hk _ e => by omega)
          have hlit := run_lit_opl w9 o (.slice A7 o.hashes.length c7)
          have hsrc := opl_lit w9 o (.slice A7 o.hashes.length c7) (fun k => w.heap.size ≤ k ∧ k ≤ g1 ∧ k ≠ at_ ∧ (Value.slice Av acc.length cv).ownBlock ≠ some k) (by
            rw [hg1]
            exact ⟨by omega, Nat.le_refl _, by omega, fun h => by have := hovl _ h; omega⟩) HNO.out (Rp.str.slice.more hr9 (fun k hk => ⟨by omega, by omega, by omega, fun h => by have := hovl _ h; omega⟩))
          unfold OpL.cells at hlit hsrc
          rw [hg1] at hlit hsrc
          rw [hw10] at hlit hsrc
          have hown10 : Own Rp.opl w10 (fun k => w.heap.size ≤ k ∧ k ≤ g1 ∧ k ≠ at_ ∧ (Value.slice Av acc.length cv).ownBlock ≠ some k) w.heap.size 58 (.slice Av acc.length cv) acc :=
            ((((HO.out.keptNo (HK6.out.trans' HK7.out)).keptNo hk8).kept hk9 (fun k hk _ e => by have := hk.1.2.1; omega) (fun k hv e => by have := hovl k hv; omega)).keptNo hk10).mono (Nat.le_refl _) (fun k hk => ⟨hk.1.1, by have := hk.1.2.1; omega, hk.2, hk.1.2.2⟩)
          have hld9 := run_load_op (o := o) hb9
          unfold opV at hld9
          have HLD9 := Lib.hid hld9
          have HLIT := Lib.hid hlit
          have HSRC := Lib.hid hsrc
          have HOW := Lib.hid hown10
          have hk610 : Kp (· = y) w6 w10 := ((HK7.out.trans' hk8).any.trans hk9 (fun _ _ h => h)).trans hk10.any (fun _ _ h => h)
          have HKX : Hid (Kp No w w10) := Lib.hid ((HKR.out.trans' HK6.out).trans hk610 (fun k hk e => by omega))
          have HBX : Hid (Blk w10 at_ 37 [.int .i64 q1, .int .i64 q2]) := Lib.hid ((HB.out.kept HK6.out (fun z => z)).kept hk610 (by omega))
          have HZX := Lib.hid (HB6.out.kept hk610 (by omega))
          have HLE : Hid (z < g1 ∧ at_ < g1 ∧ wr.heap.size ≤ z ∧ w10.heap.size = g1 + 1 ∧ w.heap.size ≤ g1) := Lib.hid ⟨by omega, by omega, HZW.out, hsz10, by omega⟩
          have HOV := Lib.hid hovl
          clear hown hk8 hb8 hb9 hk9 hk10 hr9 hlit hsrc hown10 hld9 hk610 HO HB HB6 HK6 HKR HK7 HB7 HCL HZW
          have hdone : acc.length + 1 ≤ 1000001 := by omega
          go_wp2_with (first
            | (refine wpl_load (by first | rfl | go_simp) 58 _ rfl _ _ rfl HLD9.out ?_; go_simp)
            | (at_builtin
               refine wpList_append_rp (E := Rp.opl) rfl _ (.tmp 34) (.tmp 36) 32 rfl w.heap.size 58 96 el_op (fun k => w.heap.size ≤ k ∧ k ≤ g1 ∧ k ≠ at_ ∧ (Value.slice Av acc.length cv).ownBlock ≠ some k) (.slice Av acc.length cv) acc rfl HOW.out (some ⟨g1, 0, none⟩) 1 (fun k => w.heap.size ≤ k ∧ k ≤ g1 ∧ k ≠ at_ ∧ (Value.slice Av acc.length cv).ownBlock ≠ some k) [o] rfl HSRC.out Rp.opl_one ?hcap ?hby ?hbase (fun _ h => h) (fun k hk h => h.2.2.2 hk) ?_
               case hcap => simp [maxLen]; omega
               case hby => simp; omega
               case hbase => exact HKX.out.size
               intro v9 w11 hown9 hg9 hbl9
               have hk11 : Kp (fun k => (Value.slice Av acc.length cv).ownBlock = some k) w10 w11 := (Kp.refl _ _).grown hg9 (fun g hg _ => hg)
               have hle := HLE.out
               have hs11 := hk11.size
               have HZ11 := Lib.hid (HZX.out.kept hk11 (fun h => by have := HOV.out _ h; omega))
               have HB11 := Lib.hid (HBX.out.kept hk11 HOA.out)
               have HK11 : Hid (Kp No w w11) := Lib.hid (HKX.out.trans hk11 (fun k hk h => by have := (HOW.out.lt k h).1; omega))
               have HV9 : Hid (v9.ownBlock ≠ some at_) := Lib.hid (fun h => by
                 rcases hbl9 with h2 | h2
                 · exact HOA.out (h2 ▸ h)
                 · rw [h2] at h; injection h with h; omega)
               have HO11 : Hid (Own Rp.opl w11 (NewY w w11 v9 at_) w.heap.size 58 v9 (acc ++ [o])) := Lib.hid (hown9.mono (Nat.le_refl _) (fun k hk => ⟨⟨hk.1, by omega, fun h => by
                 rcases hbl9 with h2 | h2
                 · exact hk.2.2.2 (h2 ▸ h)
                 · rw [h2] at h; injection h with h; omega⟩, hk.2.2.1⟩))
               have z9 : w11.cell? ⟨z, 9, none⟩ = some _ := Blk.cell HZ11.out rfl
               have z10 : w11.cell? ⟨z, 10, none⟩ = some _ := Blk.cell HZ11.out rfl
               have s0 : w11.cell? ⟨at_, 0, none⟩ = some _ := Blk.cell HB11.out rfl
               have s1 : w11.cell? ⟨at_, 1, none⟩ = some _ := Blk.cell HB11.out rfl
               have f0 := Blk.fr HB11.out 0
               have f1 := Blk.fr HB11.out 1
               clear hown9 hg9 hbl9 hk11 hle hs11 hw10 hg1 hw9 y8 g8))
          have hk12 : Kp (· = at_) w11 ((w11.setCell ⟨at_, 0, none⟩ (.int .i64 oan)).setCell ⟨at_, 1, none⟩ (.int .i64 oae)) := ((Kp.refl (· = at_) w11).setCell (p := ⟨at_, 0, none⟩) (fun _ => rfl) _).setCell (p := ⟨at_, 1, none⟩) (fun _ => rfl) _
          have hsz12 : ((w11.setCell ⟨at_, 0, none⟩ (.int .i64 oan)).setCell ⟨at_, 1, none⟩ (.int .i64 oae)).heap.size = w11.heap.size := by simp
          have hb12 : Blk ((w11.setCell ⟨at_, 0, none⟩ (.int .i64 oan)).setCell ⟨at_, 1, none⟩ (.int .i64 oae)) at_ 37 [.int .i64 oan, .int .i64 oae] := Blk.set (Blk.set HB11.out 0 (.int .i64 oan)) 1 (.int .i64 oae)
          have ho12 : Own Rp.opl ((w11.setCell ⟨at_, 0, none⟩ (.int .i64 oan)).setCell ⟨at_, 1, none⟩ (.int .i64 oae)) (NewY w ((w11.setCell ⟨at_, 0, none⟩ (.int .i64 oan)).setCell ⟨at_, 1, none⟩ (.int .i64 oae)) v9 at_) w.heap.size 58 v9 (acc ++ [o]) :=
            (HO11.out.kept hk12 (fun k hk _ e => hk.2 e) (fun k hv e => HV9.out (e ▸ hv))).mono (Nat.le_refl _) (fun k hk => ⟨⟨hk.1.1, by rw [hsz12]; exact hk.1.2.1, hk.1.2.2⟩, hk.2⟩)
          go_roundw
          case rel => exact ⟨acc ++ [o], (oan, oae), Lib.hid hb12, Lib.hid ho12, HV9, Lib.hid (HK11.out.trans hk12 (fun k hk e => by have := HAT.out; omega)), HRQ2, HLEN2⟩
          case measure =>
            have m1 := Blk.cell hb12 (i := 0) rfl
            have m0 := HS0.out
            simp only [m1, m0]
            exact HMEA.out
end

section
open Go.RowKit Go.ChangeShapes Go.WideShapes Go.ChangeAt

def liveG (m : List (ByteArray × OpL)) (o : OpL) : List (ByteArray × OpL) := if o.kind = 1 then mput o.name o m else if o.kind = 2 then mdel o.name m else m
def liveL1 (L : List OpL) : List (ByteArray × OpL) := L.foldl liveG []
theorem liveL1_snoc (L : List OpL) (o : OpL) : liveL1 (L ++ [o]) = liveG (liveL1 L) o := by simp [liveL1, List.foldl_append]
def pathD (M : MV) (p : Int × Int) : List OpL := (pathM M p).getD []
theorem key_text : KeyOk Try.prog 9 (κ := ByteArray) Value.string := KeyOk.string Try.underlying9
theorem pathP_all {w w' : World} {M : MV} {p : Int × Int} {e : Ending} (h : PathP w w' (pathM M p) e) : ∃ A c, e = .returned (.tuple #[.slice A (pathD M p).length c, .bool (pathM M p).isSome]) ∧ Rp.opl.slice.R w' (fun k => w.heap.size ≤ k) [.slice A (pathD M p).length c] (pathD M p) := by
  unfold pathD
  cases hp : pathM M p with
  | none =>
    rw [hp] at h
    exact ⟨none, 0, h, Rp.none_ _ _ _⟩
  | some L =>
    rw [hp] at h
    obtain ⟨A, c, h1, h2⟩ := h
    exact ⟨A, c, h1, h2⟩
set_option maxRecDepth 100000 in
set_option maxHeartbeats 8000000 in
theorem m_live (p : Int × Int) (m : Nat) (M : MV) (F : Nat → Prop) (w : World) (hM : MAt w m M F) (hok : OkM M) :
    Calls Try.prog 33 #[.pointer (some ⟨m, 0, none⟩), spotV p] w fun e w' => ∃ b, e = .returned (.tuple #[.map (some b), .bool (pathM M p).isSome]) ∧ w.heap.size ≤ b ∧ MapRp Rp.opl w' (fun k => w.heap.size ≤ k ∧ k ≠ b) b Value.string (liveL1 (pathD M p)) ∧ Kp No w w' := by
  obtain ⟨B, hB⟩ : ∃ B, (pathM M p).isSome = B := ⟨_, rfl⟩
  obtain ⟨L, hL⟩ : ∃ L, pathD M p = L := ⟨_, rfl⟩
  obtain ⟨wa, hwa⟩ : ∃ v, w.alloc (.cells #[.int .i64 p.1, .int .i64 p.2] 37) = v := ⟨_, rfl⟩
  have hka : Kp No w wa := by rw [← hwa]; exact (Kp.refl _ _).alloc _
  obtain ⟨at_, hat⟩ : ∃ v, w.heap.size = v := ⟨_, rfl⟩
  have hba : Blk wa at_ 37 [.int .i64 p.1, .int .i64 p.2] := by rw [← hwa, ← hat]; exact Blk.new w _ _
  have s0 : wa.cell? ⟨at_, 0, none⟩ = some _ := Blk.cell hba rfl
  have s1 : wa.cell? ⟨at_, 1, none⟩ = some _ := Blk.cell hba rfl
  have hpa := (m_path p m M F wa (hM.keptNo hka) hok).mono (fun e w' h => (⟨pathP_all h.1, h.2⟩ : (∃ A c, e = .returned (.tuple #[.slice A (pathD M p).length c, .bool (pathM M p).isSome]) ∧ Rp.opl.slice.R w' (fun k => wa.heap.size ≤ k) [.slice A (pathD M p).length c] (pathD M p)) ∧ Kp No wa w'))
  have hpl : L.length = L.length := rfl
  rw [hB, hL] at hpa ⊢
  unfold spotV at hpa ⊢
  have HPA := Lib.hid hpa
  have HKA := Lib.hid hka
  clear hpa hka hba hM hok hpl
  go_enter Try.func33, Try.ntmps33
  go_wp2_with fail
  clear hwa s0 s1 hat
  refine HPA.out.mono ?_
  rintro e w1 ⟨⟨A, c, rfl, hr⟩, hk1⟩
  obtain ⟨b, hb⟩ : ∃ v, w1.heap.size = v := ⟨_, rfl⟩
  obtain ⟨w2, hw2⟩ : ∃ v, w1.alloc (.map #[] 0) = v := ⟨_, rfl⟩
  have hk2 : Kp No w1 w2 := by rw [← hw2]; exact (Kp.refl _ _).alloc _
  have HMP : Hid (MapRp Rp.opl w2 (fun k => w.heap.size ≤ k ∧ k ≠ b) b Value.string (liveL1 (L.take 0))) := Lib.hid (by rw [← hw2, ← hb]; exact MapRp.made w1 _)
  have HR : Hid (Rp.opl.slice.R w2 (fun k => w.heap.size ≤ k ∧ k < b) [.slice A L.length c] L) := Lib.hid (Rp.opl.slice.keptNo (Rp.opl.slice.more (Rp.opl.slice.bnd hr) (fun k hk => ⟨Nat.le_trans HKA.out.size hk.1, by rw [← hb]; exact hk.2⟩)) hk2)
  have HK2 := Lib.hid ((HKA.out.trans' hk1).trans' hk2)
  have HBW : Hid (w.heap.size ≤ b) := Lib.hid (by rw [← hb]; exact (HKA.out.trans' hk1).size)
  have hll : (L.length : Int) ≤ 9223372036854775807 := by
    obtain ⟨_, _, he, h1, h2, _⟩ := hr
    simp only [List.cons.injEq, Value.slice.injEq, and_true] at he
    unfold maxLen at h2
    omega
  have hmk : (Instr.makeMap 80 none).run Try.prog w1 = .ok (.map (some b)) w2 := by rw [← hw2, ← hb]; rfl
  clear hr hk1 hk2 HPA HKA hw2 hb
  go_wp2_with fail
  clear hmk
  go_loopw [20] (fun iv wr => ∃ i : Nat, i ≤ L.length ∧ iv = .int .i64 (i : Int) ∧ Hid (MapRp Rp.opl wr (fun k => w.heap.size ≤ k ∧ k ≠ b) b Value.string (liveL1 (L.take i))) ∧ Hid (Kp (· = b) w2 wr)) (fun iv _ => L.length - (intOf iv).toNat)
  case atStart => exact ⟨0, Nat.zero_le _, rfl, HMP, Lib.hid (Kp.refl _ _)⟩
  case round =>
    clear HMP
    obtain ⟨i, hi, rfl, HMP, HKR⟩ := hrel
    by_cases hlt : i < L.length
    · have hli : (i : Int) < (L.length : Int) := by omega
      obtain ⟨o, ho⟩ : ∃ o, L[i]? = some o := ⟨_, List.getElem?_eq_getElem hlt⟩
      have HTK : Hid (liveL1 (L.take (i + 1)) = liveG (liveL1 (L.take i)) o) := Lib.hid (by
        obtain ⟨e1, e2⟩ := List.getElem?_eq_some_iff.1 ho
        rw [List.take_succ_eq_append_getElem e1, e2, liveL1_snoc])
      have HRX := Lib.hid (Rp.opl.slice.kept HR.out HKR.out (fun k hk _ e => by have := hk.2; omega))
      obtain ⟨ad, A', c', rfl, _, hcell, hnum, hrd⟩ := Rp.at_opl HRX.out ho
      obtain ⟨z0, z1, z2, z3, z4, z5, z6, z7, z8⟩ := opl_cells hcell
      obtain ⟨y, hy⟩ : ∃ v, wr.heap.size = v := ⟨_, rfl⟩
      obtain ⟨w3, hw3⟩ : ∃ v, wr.alloc (.cells #[.int .i64 o.n, .int .i64 o.epoch, .int .i64 o.kind, .int .i64 o.site, .int .i64 o.client, .int .i64 o.seq, .string o.name, .int .i64 o.size, .slice A' o.hashes.length c'] 58) = v := ⟨_, rfl⟩
      have hk3 : Kp No wr w3 := by rw [← hw3]; exact (Kp.refl _ _).alloc _
      have hb3 : Blk w3 y 58 [.int .i64 o.n, .int .i64 o.epoch, .int .i64 o.kind, .int .i64 o.site, .int .i64 o.client, .int .i64 o.seq, .string o.name, .int .i64 o.size, .slice A' o.hashes.length c'] := by rw [← hw3, ← hy]; exact Blk.new wr _ _
      have y2 : w3.cell? ⟨y, 2, none⟩ = some _ := Blk.cell hb3 rfl
      have y6 : w3.cell? ⟨y, 6, none⟩ = some _ := Blk.cell hb3 rfl
      have hld := run_load_op (o := o) hb3
      unfold opV at hld
      have HLD := Lib.hid hld
      have HM3 := Lib.hid (HMP.out.keptNo hk3)
      have HK3 := Lib.hid hk3
      have HNB : Hid (¬ (w.heap.size ≤ b ∧ b ≠ b)) := Lib.hid (fun h => h.2 rfl)
      have HRO : Hid (Rp.opl.R w3 (fun k => w.heap.size ≤ k ∧ k ≠ b) (o.cells (.slice A' o.hashes.length c')) o) := Lib.hid ⟨_, rfl, hnum, Rp.str.slice.keptNo (Rp.str.slice.more hrd (fun k hk => ⟨hk.1, by have := hk.2; omega⟩)) hk3⟩
      clear ho hcell hnum hrd hk3 hb3 hld HMP HRX
      by_cases h1 : o.kind = 1
      · have hg : liveG (liveL1 (L.take i)) o = mput o.name o (liveL1 (L.take i)) := by unfold liveG; rw [if_pos h1]
        obtain ⟨w4, hrun, hm4, hk4⟩ := HM3.out.update (P := Try.prog) key_text Try.underlying80 HNB.out o.name HRO.out
        have hrun2 : (Instr.mapUpdate 80 (.map (some b)) (.string o.name) (.agg #[.int .i64 o.n, .int .i64 o.epoch, .int .i64 o.kind, .int .i64 o.site, .int .i64 o.client, .int .i64 o.seq, .string o.name, .int .i64 o.size, .slice A' o.hashes.length c'])).run Try.prog w3 = .ok () w4 := hrun
        have HRUN := Lib.hid hrun2
        have HM4 : Hid (MapRp Rp.opl w4 (fun k => w.heap.size ≤ k ∧ k ≠ b) b Value.string (liveL1 (L.take (i + 1)))) := Lib.hid (by rw [HTK.out, hg]; exact hm4)
        have HK4 : Hid (Kp (· = b) w2 w4) := Lib.hid ((HKR.out.trans HK3.out.any (fun _ _ h => h)).trans hk4 (fun _ _ h => h))
        have hkb : (o.kind == 1) = true := beq_iff_eq.2 h1
        clear hg hrun hrun2 hm4 hk4 HRO HM3 h1
        go_wp2_with (first | (refine wpl_load (by first | rfl | go_simp) 58 _ rfl _ _ rfl HLD.out ?_; go_simp) | (refine wpl_update (by first | rfl | go_simp) 80 _ _ _ rfl _ _ _ rfl rfl rfl HRUN.out ?_; go_simp))
        go_roundw
        case rel => exact ⟨i + 1, by omega, by go_num, HM4, HK4⟩
        case measure => simp [intOf]; omega
      · have hkb1 : (o.kind == 1) = false := beq_eq_false_iff_ne.2 h1
        by_cases h2 : o.kind = 2
        · have hg : liveG (liveL1 (L.take i)) o = mdel o.name (liveL1 (L.take i)) := by unfold liveG; rw [if_neg h1, if_pos h2]
          obtain ⟨w4, hrun, hm4, hk4⟩ := HM3.out.delete (P := Try.prog) key_text Try.underlying80 HNB.out o.name 9 0
          have hkb2 : (o.kind == 2) = true := beq_iff_eq.2 h2
          have HM4 : Hid (MapRp Rp.opl w4 (fun k => w.heap.size ≤ k ∧ k ≠ b) b Value.string (liveL1 (L.take (i + 1)))) := Lib.hid (by rw [HTK.out, hg]; exact hm4)
          have HK4 : Hid (Kp (· = b) w2 w4) := Lib.hid ((HKR.out.trans HK3.out.any (fun _ _ h => h)).trans hk4 (fun _ _ h => h))
          clear hg hm4 hk4 HRO HM3 h1 h2
          go_wp2_with fail
          try rw [hrun]
          try go_wp2_with fail
          go_roundw
          case rel => exact ⟨i + 1, by omega, by go_num, HM4, HK4⟩
          case measure => simp [intOf]; omega
        · have hg : liveG (liveL1 (L.take i)) o = liveL1 (L.take i) := by unfold liveG; rw [if_neg h1, if_neg h2]
          have hkb2 : (o.kind == 2) = false := beq_eq_false_iff_ne.2 h2
          have HM4 : Hid (MapRp Rp.opl w3 (fun k => w.heap.size ≤ k ∧ k ≠ b) b Value.string (liveL1 (L.take (i + 1)))) := Lib.hid (by rw [HTK.out, hg]; exact HM3.out)
          have HK4 : Hid (Kp (· = b) w2 w3) := Lib.hid (HKR.out.trans HK3.out.any (fun _ _ h => h))
          clear hg HRO HM3 h1 h2
          go_wp2_with fail
          go_roundw
          case rel => exact ⟨i + 1, by omega, by go_num, HM4, HK4⟩
          case measure => simp [intOf]; omega
    · obtain rfl : i = L.length := by omega
      have HMQ := Lib.hid HMP.out
      rw [List.take_length] at HMQ
      go_wp2_with fail
      exact bodyPost_ret (results_tmp2 rfl _ _ _) rfl ⟨b, rfl, HBW.out, HMQ.out, HK2.out.trans HKR.out (fun k hk e => by have := HBW.out; omega)⟩
end
end Go.Proofs.Ytamfgmlhopjppaa
