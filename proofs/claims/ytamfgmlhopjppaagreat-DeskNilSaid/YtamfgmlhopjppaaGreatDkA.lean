/-
  (*Desk).Agreed.
-/
import Derived.Test.YtamfgmlhopjppaaGreatDkE
import Derived.Test.YtamfgmlhopjppaaGreatGI
import Derived.Test.YtamfgmlhopjppaaGreatGH
import Derived.Test.YtamfgmlhopjppaaGreatLedQ
import Derived.Test.YtamfgmlhopjppaaGreatRegT
namespace Go.Proofs.YtamfgmlhopjppaaGreat
open Go.RowKit Go.ChangeShapes Go.WideShapes Go.ChangeAt

theorem live_sheets : ∀ (l : List OpL) (f : FV), (∀ p ∈ f.live, p.2.2.length ≤ 8 ∧ 0 ≤ p.2.1 ∧ p.2.1 ≤ 512) → (∀ o ∈ l, okP o) → ∀ p ∈ (f.take l).live, p.2.2.length ≤ 8 ∧ 0 ≤ p.2.1 ∧ p.2.1 ≤ 512
  | [], f, h, _ => h
  | o :: l, f, h, ho => by
    refine live_sheets l (f.take1 o) ?_ (fun x hx => ho x (List.mem_cons_of_mem _ hx))
    intro p hp
    have h1 := ho o List.mem_cons_self
    unfold FV.take1 at hp
    split at hp
    · exact h p hp
    · simp only at hp
      split at hp
      · rcases mem_mput _ _ _ _ hp with hp | hp
        · rw [hp]
          exact ⟨h1.hashes, h1.size⟩
        · exact h p (mem_mdel _ _ _ hp)
      · exact h p (mem_mdel _ _ _ hp)
theorem mget_mem' {κ ν : Type} [DecidableEq κ] {k : κ} {v : ν} : ∀ {l : List (κ × ν)}, mget k l = some v → (k, v) ∈ l
  | (k', v') :: l, h => by
    unfold mget at h
    split at h
    · rename_i e
      injection h with h
      rw [← h, e]; exact List.mem_cons_self
    · exact List.mem_cons_of_mem _ (mget_mem' h)
theorem OkL.sheet {B : Nat} {L : LV} (h : OkL B L) (nm : ByteArray) : (sheetOf nm L).2.length ≤ 8 ∧ 0 ≤ (sheetOf nm L).1 ∧ (sheetOf nm L).1 ≤ 512 := by
  unfold sheetOf
  cases hg : mget nm L.fold.live with
  | none => exact ⟨Nat.zero_le _, Int.le_refl _, by decide⟩
  | some v => exact live_sheets L.ops FV.fresh (fun p hp => by cases hp) (fun _ ho => h.okOf ho) _ (mget_mem' hg)
theorem OkL.last {B : Nat} {L : LV} (h : OkL B L) : I64 (lastL L).1 ∧ I64 (lastL L).2 := by
  unfold lastL
  cases hl : L.ops.getLast? with
  | none => exact ⟨rfl, rfl⟩
  | some o =>
    have ho := h.okOf (List.mem_of_getLast? hl)
    have h1 := ho.1
    unfold placeP reignP at h1
    exact ⟨I64.of (by simp only; omega), I64.of (by simp only; omega)⟩
/-- what an entry brings to a request -/
def agreedD (dn : Done3) (L : LV) : HowD := fun r =>
  if r.ask.kind = 1 ∨ r.ask.kind = 2 then
    if dn.1 = 0 then (repD r.n 0 (lastL L), false, { r with what := 1, an := dn.2.1, ae := dn.2.2 }) else (repD r.n dn.1 (0, 0), true, r)
  else if r.ask.kind = 3 then ({ repD r.n 0 (lastL L) with names := namesL L }, true, r)
  else if r.ask.kind = 6 then ({ repD r.n 0 (lastL L) with lost := L.lost }, true, r)
  else if r.ask.kind = 4 then
    if (mget r.ask.name L.fold.live).isSome = true then (repD r.n 0 (lastL L), false, { r with what := 2, an := (lastL L).1, ae := (lastL L).2, size := (sheetOf r.ask.name L).1, hashes := (sheetOf r.ask.name L).2 })
    else (repD r.n 123 (lastL L), true, r)
  else (repD r.n 1 (0, 0), true, r)
def agreedF (index term : Int) (dn : Done3) (L : LV) : HowD := fun r =>
  if r.index = index then if r.term = term then agreedD dn L r else (repD r.n 222 (0, 0), true, r) else (repD 0 0 (0, 0), false, r)
theorem run_store_rep (w : World) (g : Nat) (x : RepL) (A B : Option Addr) (n c m e : Nat) (cs : List Value) (h : Blk w g 75 cs) (hl : cs.length = 7) :
    (Instr.storeAt 75 (.pointer (some ⟨g, 0, none⟩)) (repW x (.slice A n c) (.slice B m e))).run Tryz.prog w = .ok () (wset w g 0 (x.cells (.slice A n c) (.slice B m e))) := by
  match cs, hl with
  | [u0, u1, u2, u3, u4, u5, u6], _ =>
    have h0 : w.cell? ⟨g, 0, none⟩ = some _ := Blk.cell h rfl
    have h1 : w.cell? ⟨g, 1, none⟩ = some _ := Blk.cell h rfl
    have h2 : w.cell? ⟨g, 2, none⟩ = some _ := Blk.cell h rfl
    have h3 : w.cell? ⟨g, 3, none⟩ = some _ := Blk.cell h rfl
    have h4 : w.cell? ⟨g, 4, none⟩ = some _ := Blk.cell h rfl
    have h5 : w.cell? ⟨g, 5, none⟩ = some _ := Blk.cell h rfl
    have h6 : w.cell? ⟨g, 6, none⟩ = some _ := Blk.cell h rfl
    have hf := Blk.fr h
    clear h
    unfold repW
    go_simp
    rfl
theorem lset_rep (x : RepL) (nv lv : Value) (cs : List Value) (hl : cs.length = 7) : lset cs 0 (x.cells nv lv) = x.cells nv lv := by
  match cs, hl with
  | [u0, u1, u2, u3, u4, u5, u6], _ => rfl
/-- an answer stored into its block -/
theorem store_rep {w : World} {g : Nat} (x : RepL) (A B : Option Addr) (n c m e : Nat) {cs : List Value} (h : Blk w g 75 cs) (hl : cs.length = 7) :
    ∃ w', (Instr.storeAt 75 (.pointer (some ⟨g, 0, none⟩)) (repW x (.slice A n c) (.slice B m e))).run Tryz.prog w = .ok () w' ∧ Blk w' g 75 (x.cells (.slice A n c) (.slice B m e)) ∧ Kp (· = g) w w' := by
  refine ⟨_, run_store_rep w g x A B n c m e cs h hl, ?_, wset_kp⟩
  have := wset_blk (vs := x.cells (.slice A n c) (.slice B m e)) (o := 0) h
  rw [lset_rep x _ _ cs hl] at this
  exact this
def zeroR : RepL := repD 0 0 (0, 0)
theorem rd_str {w w' : World} {n m x y : Nat} {v : Value} {L : List ByteArray} (h : Rp.str.slice.R w (fun k => No k ∨ n ≤ k) [v] L) (hk : Kp (fun k => k = x ∨ k = y) w w') (hx : x < n) (hy : y < n) (hm : m ≤ n) : Rp.str.slice.R w' (fun k => m ≤ k) [v] L :=
  Rp.str.slice.more (Rp.str.slice.kept h hk (fun k h _ e => by
    rcases h with h | h
    · exact h
    · rcases e with e | e <;> omega)) (fun k h => by
    rcases h with h | h
    · exact h.elim
    · omega)
theorem rd_opl {w w' : World} {n m x y : Nat} {v : Value} {L : List OpL} (h : Rp.opl.slice.R w (fun k => n ≤ k ∨ n ≤ k) [v] L) (hk : Kp (fun k => k = x ∨ k = y) w w') (hx : x < n) (hy : y < n) (hm : m ≤ n) : Rp.opl.slice.R w' (fun k => m ≤ k) [v] L :=
  Rp.opl.slice.more (Rp.opl.slice.kept h hk (fun k h _ e => by
    rcases h with h | h <;> rcases e with e | e <;> omega)) (fun k h => by
    rcases h with h | h <;> omega)
set_option maxRecDepth 100000 in
set_option maxHeartbeats 40000000 in
theorem k_agreed (dn : Done3) (hdn : I64 dn.1 ∧ I64 dn.2.1 ∧ I64 dn.2.2) (B l : Nat) (LL : LV) (FL : Nat → Prop) (r : RowD) (z : Nat) (hv : Value) (T : Nat → Prop) (w : World) (hL : LAt w l LL FL) (hok : OkL B LL) (hB : B ≤ 800000) (hFz : ∀ k, FL k → k ≠ z)
    (hb : Blk w z 118 (r.cells hv)) (hr : Rp.str.slice.R w T [hv] r.hashes) (hT : ∀ k, T k → k ≠ z) (hn : r.nums) :
    Calls Tryz.prog 73 #[.pointer (some ⟨z, 0, none⟩), doneV dn, .pointer (some ⟨l, 0, none⟩)] w (AnsD z w T (agreedD dn LL r)) := by
  obtain ⟨b, hbb⟩ : ∃ v, w.heap.size = v := ⟨_, rfl⟩
  obtain ⟨wa, hwa⟩ : ∃ v, w.alloc (.cells #[.int .i64 dn.1, .int .i64 dn.2.1, .int .i64 dn.2.2] 44) = v := ⟨_, rfl⟩
  have hka : Kp No w wa := by rw [← hwa]; exact (Kp.refl _ _).alloc _
  have hba : Blk wa b 44 [.int .i64 dn.1, .int .i64 dn.2.1, .int .i64 dn.2.2] := by rw [← hwa, ← hbb]; exact Blk.new _ _ _
  obtain ⟨y, hy⟩ : ∃ v, wa.heap.size = v := ⟨_, rfl⟩
  obtain ⟨wb, hwb⟩ : ∃ v, wa.alloc (.cells #[.int .i64 0, .int .i64 0, .int .i64 0, .int .i64 0, .slice none 0 0, .string ⟨#[]⟩, .slice none 0 0] 75) = v := ⟨_, rfl⟩
  have hkb : Kp No wa wb := by rw [← hwb]; exact (Kp.refl _ _).alloc _
  have HY : Hid (Blk wb y 75 [.int .i64 0, .int .i64 0, .int .i64 0, .int .i64 0, .slice none 0 0, .string ⟨#[]⟩, .slice none 0 0]) := Lib.hid (by rw [← hwb, ← hy]; exact Blk.new _ _ _)
  have HB := Lib.hid (hba.kept hkb (fun h => h))
  have HKA := Lib.hid (hka.trans' hkb)
  have HZ := Lib.hid (hb.kept HKA.out (fun h => h))
  have HZ0 := Lib.hid hb
  have HRH := Lib.hid hr
  have HTZ := Lib.hid hT
  have HNU := Lib.hid hn
  have HDN := Lib.hid hdn
  have HZW : Hid (z < w.heap.size ∧ w.heap.size ≤ b ∧ b < wb.heap.size ∧ w.heap.size ≤ y ∧ y < wb.heap.size ∧ b ≠ y) := Lib.hid ⟨Blk.lt hb, Nat.le_of_eq hbb, Blk.lt HB.out, by have := hka.size; omega, Blk.lt HY.out, by have := Blk.lt hba; omega⟩
  have HLA := Lib.hid (fun w' (hk : Kp No wb w') => hL.keptNo (HKA.out.trans' hk))
  have HOK := Lib.hid hok
  have HFZ := Lib.hid hFz
  have HLT := Lib.hid (fun w' (hk : Kp No wb w') => a_last l LL FL w' (HLA.out w' hk) (by have := hok.len; omega))
  have HPN := Lib.hid hok.last
  obtain ⟨q, hq⟩ : ∃ q, agreedD dn LL r = q := ⟨_, rfl⟩
  have HQ := Lib.hid hq
  rw [hq]
  unfold agreedD at HQ
  obtain ⟨p, hp⟩ : ∃ v, lastL LL = v := ⟨_, rfl⟩
  rw [hp] at HQ HLT HPN
  have HRP := Lib.hid (fun w' => k_reply r 0 p w')
  unfold reqW at HRP
  unfold doneV
  clear hka hba hkb hL hok hFz hb hr hT hn hdn hq hp
  obtain ⟨d1, d2, d3⟩ := dn
  simp only at HQ HB hwa HDN ⊢
  go_enter Tryz.func73, Tryz.ntmps73
  go_upto_region 1 with fail
  try rw [hwa]
  try rw [hbb]
  try rw [hwb]
  try rw [hy]
  clear hwa hwb hy hbb
  go_cut [8] (fun xv wx => ∃ x, xv = .pointer (some ⟨x, 0, none⟩) ∧ Hid (Blk wx x 75 ((repD r.n 0 p).cells (.slice none 0 0) (.slice none 0 0))) ∧ Hid (Kp No wb wx) ∧ Hid (wb.heap.size ≤ x))
  case first =>
    obtain ⟨wd, hwd⟩ : ∃ v, wb.drew = v := ⟨_, rfl⟩
    have HKD : Hid (Kp No wb wd) := Lib.hid (by rw [← hwd]; exact (Kp.refl _ _).drew)
    have z0 : wd.cell? ⟨z, 0, none⟩ = some _ := Blk.cell (HZ.out.kept HKD.out (fun h => h)) rfl
    have z1 : wd.cell? ⟨z, 1, none⟩ = some _ := Blk.cell (HZ.out.kept HKD.out (fun h => h)) rfl
    have z2 : wd.cell? ⟨z, 2, none⟩ = some _ := Blk.cell (HZ.out.kept HKD.out (fun h => h)) rfl
    have z3 : wd.cell? ⟨z, 3, none⟩ = some _ := Blk.cell (HZ.out.kept HKD.out (fun h => h)) rfl
    have z4 : wd.cell? ⟨z, 4, none⟩ = some _ := Blk.cell (HZ.out.kept HKD.out (fun h => h)) rfl
    have z5 : wd.cell? ⟨z, 5, none⟩ = some _ := Blk.cell (HZ.out.kept HKD.out (fun h => h)) rfl
    have z6 : wd.cell? ⟨z, 6, none⟩ = some _ := Blk.cell (HZ.out.kept HKD.out (fun h => h)) rfl
    have z7 : wd.cell? ⟨z, 7, none⟩ = some _ := Blk.cell (HZ.out.kept HKD.out (fun h => h)) rfl
    refine Reg.wp_region_tree (.look 0 (.look 1 (.look 2 (.look 3 (.look 4 (.two 5 [1, 2, 3] (.two 6 [] (.one 7 [] (.one 8 [] (.done))) 7 [1, 2, 3] (.one 6 [] (.one 8 [] (.done)))) 7 [1, 2, 3] (.one 5 [1, 2, 3] (.one 6 [] (.one 8 [] (.done)))))))))) [5, 6, 7, 8] rfl (by kernel_rfl) ?_
    rw [hwd]
    clear hwd
    repeat (first | (refine Reg.lookT rfl rfl rfl (by go_simp; rfl) rfl ?_; go_simp))
    refine Reg.twoT rfl rfl ?_ ?_
    · skip
      go_wp2_with fail
      refine (HLT.out wd HKD.out).mono ?_
      rintro e w2 ⟨rfl, hk2⟩
      have HK2 := Lib.hid (HKD.out.trans' hk2)
      clear hk2
      clear z0 z1 z2 z3 z4 z5 z6 z7
      have z0 : w2.cell? ⟨z, 0, none⟩ = some _ := Blk.cell (HZ.out.kept HK2.out (fun h => h)) rfl
      have z1 : w2.cell? ⟨z, 1, none⟩ = some _ := Blk.cell (HZ.out.kept HK2.out (fun h => h)) rfl
      have z2 : w2.cell? ⟨z, 2, none⟩ = some _ := Blk.cell (HZ.out.kept HK2.out (fun h => h)) rfl
      have z3 : w2.cell? ⟨z, 3, none⟩ = some _ := Blk.cell (HZ.out.kept HK2.out (fun h => h)) rfl
      have z4 : w2.cell? ⟨z, 4, none⟩ = some _ := Blk.cell (HZ.out.kept HK2.out (fun h => h)) rfl
      have z5 : w2.cell? ⟨z, 5, none⟩ = some _ := Blk.cell (HZ.out.kept HK2.out (fun h => h)) rfl
      have z6 : w2.cell? ⟨z, 6, none⟩ = some _ := Blk.cell (HZ.out.kept HK2.out (fun h => h)) rfl
      have z7 : w2.cell? ⟨z, 7, none⟩ = some _ := Blk.cell (HZ.out.kept HK2.out (fun h => h)) rfl
      go_wp2_with fail
      (refine ⟨?anew, ?_⟩; case anew => ((repeat (refine Reg.anew_cons rfl rfl (fun _ => by go_simp) ?_)); exact Reg.anew_nil))
      repeat (first | (refine Reg.lookT rfl rfl rfl (by go_simp; rfl) rfl ?_; go_simp))
      refine Reg.twoT rfl rfl ?_ ?_
      · skip
        go_wp2_with fail
        refine (HRP.out w2).mono ?_
        rintro e w3 ⟨rfl, hk3⟩
        unfold repW repD
        have HK3 := Lib.hid (HK2.out.trans' hk3)
        clear hk3
        clear z0 z1 z2 z3 z4 z5 z6 z7
        go_wp2_with fail
        refine ⟨Reg.anew_nil, ?_⟩
        refine Reg.oneT rfl ?_
        obtain ⟨x, hx⟩ : ∃ v, (w3).heap.size = v := ⟨_, rfl⟩
        obtain ⟨w4, hw4⟩ : ∃ v, (w3).alloc (.cells #[.int .i64 0, .int .i64 0, .int .i64 0, .int .i64 0, .slice none 0 0, .string ⟨#[]⟩, .slice none 0 0] 75) = v := ⟨_, rfl⟩
        have hk4 : Kp No w3 w4 := by rw [← hw4]; exact (Kp.refl _ _).alloc _
        have hb4 : Blk w4 x 75 [.int .i64 0, .int .i64 0, .int .i64 0, .int .i64 0, .slice none 0 0, .string ⟨#[]⟩, .slice none 0 0] := by rw [← hw4, ← hx]; exact Blk.new _ _ _
        have HX := Lib.hid (show wb.heap.size ≤ x by have := HK3.out.size; omega)
        have HK4 := Lib.hid (HK3.out.trans' hk4)
        go_wp2_with fail
        try rw [hw4]
        try rw [hx]
        refine ⟨Reg.anew_nil, ?_⟩
        clear hk4 hw4 hx
        obtain ⟨w5, hst, hb5, hk5⟩ := store_rep (repD r.n 0 p) none none 0 0 0 0 hb4 rfl
        have HST := Lib.hid hst
        have HB5 := Lib.hid hb5
        have HK5 := Lib.hid (HK4.out.trans hk5 (fun k hk e => by have := HX.out; omega) : Kp No wb w5)
        unfold repW repD at HST
        clear hst hb5 hk5
        refine Reg.oneT rfl ?_
        go_wp2_with (refine wpl_store (by first | rfl | go_simp) 75 _ _ rfl _ _ (by go_simp) (by go_simp) HST.out ?_; go_simp)
        refine ⟨Reg.anew_nil, ?_⟩
        refine Reg.doneT ?_
        simp only [Exit.then]
        go_wp2_with fail
        go_meet
        exact ⟨x, rfl, HB5, HK5, HX⟩
      · skip
        obtain ⟨x, hx⟩ : ∃ v, (w2).heap.size = v := ⟨_, rfl⟩
        obtain ⟨w4, hw4⟩ : ∃ v, (w2).alloc (.cells #[.int .i64 0, .int .i64 0, .int .i64 0, .int .i64 0, .slice none 0 0, .string ⟨#[]⟩, .slice none 0 0] 75) = v := ⟨_, rfl⟩
        have hk4 : Kp No w2 w4 := by rw [← hw4]; exact (Kp.refl _ _).alloc _
        have hb4 : Blk w4 x 75 [.int .i64 0, .int .i64 0, .int .i64 0, .int .i64 0, .slice none 0 0, .string ⟨#[]⟩, .slice none 0 0] := by rw [← hw4, ← hx]; exact Blk.new _ _ _
        have HX := Lib.hid (show wb.heap.size ≤ x by have := HK2.out.size; omega)
        have HK4 := Lib.hid (HK2.out.trans' hk4)
        have HB4 := Lib.hid hb4
        clear hb4 hk4
        clear z0 z1 z2 z3 z4 z5 z6 z7
        have z0 : w4.cell? ⟨z, 0, none⟩ = some _ := Blk.cell (HZ.out.kept HK4.out (fun h => h)) rfl
        have z1 : w4.cell? ⟨z, 1, none⟩ = some _ := Blk.cell (HZ.out.kept HK4.out (fun h => h)) rfl
        have z2 : w4.cell? ⟨z, 2, none⟩ = some _ := Blk.cell (HZ.out.kept HK4.out (fun h => h)) rfl
        have z3 : w4.cell? ⟨z, 3, none⟩ = some _ := Blk.cell (HZ.out.kept HK4.out (fun h => h)) rfl
        have z4 : w4.cell? ⟨z, 4, none⟩ = some _ := Blk.cell (HZ.out.kept HK4.out (fun h => h)) rfl
        have z5 : w4.cell? ⟨z, 5, none⟩ = some _ := Blk.cell (HZ.out.kept HK4.out (fun h => h)) rfl
        have z6 : w4.cell? ⟨z, 6, none⟩ = some _ := Blk.cell (HZ.out.kept HK4.out (fun h => h)) rfl
        have z7 : w4.cell? ⟨z, 7, none⟩ = some _ := Blk.cell (HZ.out.kept HK4.out (fun h => h)) rfl
        go_wp2_with fail
        try rw [hw4]
        try rw [hx]
        clear hw4 hx
        (refine ⟨?anew, ?_⟩; case anew => ((repeat (refine Reg.anew_cons rfl rfl (fun _ => by go_simp) ?_)); exact Reg.anew_nil))
        repeat (first | (refine Reg.lookT rfl rfl rfl (by go_simp; rfl) rfl ?_; go_simp))
        refine Reg.oneT rfl ?_
        go_wp2_with fail
        refine (HRP.out w4).mono ?_
        rintro e w3 ⟨rfl, hk3⟩
        unfold repW repD
        have HK3 := Lib.hid (HK4.out.trans' hk3)
        have hb3 := HB4.out.kept hk3 (fun h => h)
        clear hk3
        clear z0 z1 z2 z3 z4 z5 z6 z7
        go_wp2_with fail
        refine ⟨Reg.anew_nil, ?_⟩
        obtain ⟨w5, hst, hb5, hk5⟩ := store_rep (repD r.n 0 p) none none 0 0 0 0 hb3 rfl
        have HST := Lib.hid hst
        have HB5 := Lib.hid hb5
        have HK5 := Lib.hid (HK3.out.trans hk5 (fun k hk e => by have := HX.out; omega) : Kp No wb w5)
        unfold repW repD at HST
        clear hst hb5 hk5
        refine Reg.oneT rfl ?_
        go_wp2_with (refine wpl_store (by first | rfl | go_simp) 75 _ _ rfl _ _ (by go_simp) (by go_simp) HST.out ?_; go_simp)
        refine ⟨Reg.anew_nil, ?_⟩
        refine Reg.doneT ?_
        simp only [Exit.then]
        go_wp2_with fail
        go_meet
        exact ⟨x, rfl, HB5, HK5, HX⟩
    · skip
      obtain ⟨x, hx⟩ : ∃ v, (wd).heap.size = v := ⟨_, rfl⟩
      obtain ⟨w4, hw4⟩ : ∃ v, (wd).alloc (.cells #[.int .i64 0, .int .i64 0, .int .i64 0, .int .i64 0, .slice none 0 0, .string ⟨#[]⟩, .slice none 0 0] 75) = v := ⟨_, rfl⟩
      have hk4 : Kp No wd w4 := by rw [← hw4]; exact (Kp.refl _ _).alloc _
      have hb4 : Blk w4 x 75 [.int .i64 0, .int .i64 0, .int .i64 0, .int .i64 0, .slice none 0 0, .string ⟨#[]⟩, .slice none 0 0] := by rw [← hw4, ← hx]; exact Blk.new _ _ _
      have HX := Lib.hid (show wb.heap.size ≤ x by have := HKD.out.size; omega)
      have HK4 := Lib.hid (HKD.out.trans' hk4)
      have HB4 := Lib.hid hb4
      clear hb4 hk4
      clear z0 z1 z2 z3 z4 z5 z6 z7
      have z0 : w4.cell? ⟨z, 0, none⟩ = some _ := Blk.cell (HZ.out.kept HK4.out (fun h => h)) rfl
      have z1 : w4.cell? ⟨z, 1, none⟩ = some _ := Blk.cell (HZ.out.kept HK4.out (fun h => h)) rfl
      have z2 : w4.cell? ⟨z, 2, none⟩ = some _ := Blk.cell (HZ.out.kept HK4.out (fun h => h)) rfl
      have z3 : w4.cell? ⟨z, 3, none⟩ = some _ := Blk.cell (HZ.out.kept HK4.out (fun h => h)) rfl
      have z4 : w4.cell? ⟨z, 4, none⟩ = some _ := Blk.cell (HZ.out.kept HK4.out (fun h => h)) rfl
      have z5 : w4.cell? ⟨z, 5, none⟩ = some _ := Blk.cell (HZ.out.kept HK4.out (fun h => h)) rfl
      have z6 : w4.cell? ⟨z, 6, none⟩ = some _ := Blk.cell (HZ.out.kept HK4.out (fun h => h)) rfl
      have z7 : w4.cell? ⟨z, 7, none⟩ = some _ := Blk.cell (HZ.out.kept HK4.out (fun h => h)) rfl
      go_wp2_with fail
      try rw [hw4]
      try rw [hx]
      clear hw4 hx
      (refine ⟨?anew, ?_⟩; case anew => ((repeat (refine Reg.anew_cons rfl rfl (fun _ => by go_simp) ?_)); exact Reg.anew_nil))
      repeat (first | (refine Reg.lookT rfl rfl rfl (by go_simp; rfl) rfl ?_; go_simp))
      refine Reg.oneT rfl ?_
      go_wp2_with fail
      refine (HLT.out w4 HK4.out).mono ?_
      rintro e w2 ⟨rfl, hk2⟩
      have HK2 := Lib.hid (HK4.out.trans' hk2)
      have HB2 := Lib.hid (HB4.out.kept hk2 (fun h => h))
      clear hk2
      clear z0 z1 z2 z3 z4 z5 z6 z7
      have z0 : w2.cell? ⟨z, 0, none⟩ = some _ := Blk.cell (HZ.out.kept HK2.out (fun h => h)) rfl
      have z1 : w2.cell? ⟨z, 1, none⟩ = some _ := Blk.cell (HZ.out.kept HK2.out (fun h => h)) rfl
      have z2 : w2.cell? ⟨z, 2, none⟩ = some _ := Blk.cell (HZ.out.kept HK2.out (fun h => h)) rfl
      have z3 : w2.cell? ⟨z, 3, none⟩ = some _ := Blk.cell (HZ.out.kept HK2.out (fun h => h)) rfl
      have z4 : w2.cell? ⟨z, 4, none⟩ = some _ := Blk.cell (HZ.out.kept HK2.out (fun h => h)) rfl
      have z5 : w2.cell? ⟨z, 5, none⟩ = some _ := Blk.cell (HZ.out.kept HK2.out (fun h => h)) rfl
      have z6 : w2.cell? ⟨z, 6, none⟩ = some _ := Blk.cell (HZ.out.kept HK2.out (fun h => h)) rfl
      have z7 : w2.cell? ⟨z, 7, none⟩ = some _ := Blk.cell (HZ.out.kept HK2.out (fun h => h)) rfl
      go_wp2_with fail
      (refine ⟨?anew, ?_⟩; case anew => ((repeat (refine Reg.anew_cons rfl rfl (fun _ => by go_simp) ?_)); exact Reg.anew_nil))
      repeat (first | (refine Reg.lookT rfl rfl rfl (by go_simp; rfl) rfl ?_; go_simp))
      refine Reg.oneT rfl ?_
      go_wp2_with fail
      refine (HRP.out w2).mono ?_
      rintro e w3 ⟨rfl, hk3⟩
      unfold repW repD
      have HK3 := Lib.hid (HK2.out.trans' hk3)
      have hb3 := HB2.out.kept hk3 (fun h => h)
      clear hk3
      clear z0 z1 z2 z3 z4 z5 z6 z7
      go_wp2_with fail
      refine ⟨Reg.anew_nil, ?_⟩
      obtain ⟨w5, hst, hb5, hk5⟩ := store_rep (repD r.n 0 p) none none 0 0 0 0 hb3 rfl
      have HST := Lib.hid hst
      have HB5 := Lib.hid hb5
      have HK5 := Lib.hid (HK3.out.trans hk5 (fun k hk e => by have := HX.out; omega) : Kp No wb w5)
      unfold repW repD at HST
      clear hst hb5 hk5
      refine Reg.oneT rfl ?_
      go_wp2_with (refine wpl_store (by first | rfl | go_simp) 75 _ _ rfl _ _ (by go_simp) (by go_simp) HST.out ?_; go_simp)
      refine ⟨Reg.anew_nil, ?_⟩
      refine Reg.doneT ?_
      simp only [Exit.then]
      go_wp2_with fail
      go_meet
      exact ⟨x, rfl, HB5, HK5, HX⟩
  case rest =>
    obtain ⟨x, rfl, HX, HKX, HXW⟩ := hcut
    obtain ⟨w1, rfl⟩ : ∃ v, v = wc := ⟨_, rfl⟩
    have HZ1 := Lib.hid (HZ.out.kept HKX.out (fun h => h))
    have HB1 := Lib.hid (HB.out.kept HKX.out (fun h => h))
    have HY1 := Lib.hid (HY.out.kept HKX.out (fun h => h))
    have HK1 := Lib.hid (HKA.out.trans' HKX.out)
    have HXL : Hid (x < w1.heap.size) := Lib.hid (Blk.lt HX.out)
    have HYL : Hid (y < w1.heap.size) := Lib.hid (Blk.lt HY1.out)
    have z1 : w1.cell? ⟨z, 1, none⟩ = some _ := Blk.cell HZ1.out rfl
    by_cases h12 : r.ask.kind = 1 ∨ r.ask.kind = 2
    case pos =>
      rw [if_pos h12] at HQ
      by_cases h1 : r.ask.kind = 1
      case pos =>
        have k1 : (r.ask.kind == 1) = true := beq_iff_eq.2 h1
        clear h1 h12
        by_cases hd : d1 = 0
        case neg =>
          rw [if_neg hd] at HQ
          have hdb : (d1 != 0) = true := bne_iff_ne.2 hd
          have e := HQ.out
          subst e
          have b0 : w1.cell? ⟨b, 0, none⟩ = some _ := Blk.cell HB1.out rfl
          clear hd HQ
          go_upto_region 7 with fail
          clear b0
          obtain ⟨wd, hwd⟩ : ∃ v, w1.drew = v := ⟨_, rfl⟩
          have HKD : Hid (Kp No wb wd) := Lib.hid (by rw [← hwd]; exact HKX.out.drew)
          have HKD1 : Hid (Kp No w1 wd) := Lib.hid (by rw [← hwd]; exact (Kp.refl _ _).drew)
          clear z1
          have z0 : wd.cell? ⟨z, 0, none⟩ = some _ := Blk.cell (HZ.out.kept HKD.out (fun h => h)) rfl
          have z1 : wd.cell? ⟨z, 1, none⟩ = some _ := Blk.cell (HZ.out.kept HKD.out (fun h => h)) rfl
          have z2 : wd.cell? ⟨z, 2, none⟩ = some _ := Blk.cell (HZ.out.kept HKD.out (fun h => h)) rfl
          have z3 : wd.cell? ⟨z, 3, none⟩ = some _ := Blk.cell (HZ.out.kept HKD.out (fun h => h)) rfl
          have z4 : wd.cell? ⟨z, 4, none⟩ = some _ := Blk.cell (HZ.out.kept HKD.out (fun h => h)) rfl
          have z5 : wd.cell? ⟨z, 5, none⟩ = some _ := Blk.cell (HZ.out.kept HKD.out (fun h => h)) rfl
          have z6 : wd.cell? ⟨z, 6, none⟩ = some _ := Blk.cell (HZ.out.kept HKD.out (fun h => h)) rfl
          have z7 : wd.cell? ⟨z, 7, none⟩ = some _ := Blk.cell (HZ.out.kept HKD.out (fun h => h)) rfl
          have b0 : wd.cell? ⟨b, 0, none⟩ = some _ := Blk.cell (HB1.out.kept HKD1.out (fun h => h)) rfl
          have HR7 := Lib.hid (k_reply r d1 (0, 0) wd)
          unfold reqW at HR7
          refine Reg.wp_region_plan [⟨0, false, []⟩, ⟨1, false, []⟩, ⟨2, false, []⟩, ⟨3, false, []⟩, ⟨4, false, []⟩, ⟨5, false, []⟩, ⟨6, false, []⟩, ⟨7, true, []⟩, ⟨8, true, []⟩, ⟨9, false, []⟩] rfl (by kernel_rfl) ?_
          rw [hwd]
          clear hwd
          repeat (first | (refine Reg.look rfl rfl rfl (by go_simp; rfl) rfl ?_; go_simp) | (refine Reg.skip rfl rfl rfl ?_; go_simp))
          refine Reg.act rfl ?_
          go_wp2_with fail
          refine HR7.out.mono ?_
          rintro e w3 ⟨rfl, hk3⟩
          unfold repW repD
          have hy3 := HY1.out.kept (HKD1.out.trans' hk3) (fun h => h)
          have HK3 := Lib.hid (HK1.out.trans' (HKD1.out.trans' hk3))
          clear hk3 HR7 b0
          clear z0 z1 z2 z3 z4 z5 z6 z7
          obtain ⟨w5, hst, hb5, hk5⟩ := store_rep (repD r.n d1 (0, 0)) none none 0 0 0 0 hy3 rfl
          have HST := Lib.hid hst
          have HB5 := Lib.hid hb5
          have HK5y := Lib.hid hk5
          clear hst hb5 hk5
          clear hy3
          unfold repW repD at HST
          go_wp2_with fail
          refine ⟨Reg.anew_nil, ?_⟩
          refine Reg.act rfl ?_
          go_wp2_with (refine wpl_store (by first | rfl | go_simp) 75 _ _ rfl _ _ (by go_simp) (by go_simp) HST.out ?_; go_simp)
          refine ⟨Reg.anew_nil, ?_⟩
          repeat (first | (refine Reg.look rfl rfl rfl (by go_simp; rfl) rfl ?_; go_simp) | (refine Reg.skip rfl rfl rfl ?_; go_simp))
          (refine Reg.done ?_; simp only [Exit.then])
          go_wp2_with fail
          have HK5 : Hid (Kp No w w5) := Lib.hid (HK3.out.trans HK5y.out (fun k hk e => by have := HZW.out; omega))
          exact bodyPost_ret (results_cuD rfl _ _ y _ _ _ _ rfl HB5.out Tryz.underlying75 rfl (by kernel_rfl)) rfl ⟨.slice none 0 0, .slice none 0 0, hv, rfl, HZ0.out.kept HK5.out (fun h => h), Rp.str.slice.more (Rp.str.slice.keptNo HRH.out HK5.out) (fun k h => .inl h), (Rp.none_ _ _ _), (Rp.none_ _ _ _), ⟨HNU.out.1, HDN.out.1, rfl, rfl, Nat.zero_le _⟩, HNU.out, Kp.any HK5.out⟩
        case pos =>
          subst hd
          rw [if_pos rfl] at HQ
          have e := HQ.out
          subst e
          have b0 : w1.cell? ⟨b, 0, none⟩ = some _ := Blk.cell HB1.out rfl
          clear HQ
          go_upto_region 8 with fail
          clear b0 z1
          obtain ⟨wd, hwd⟩ : ∃ v, w1.drew = v := ⟨_, rfl⟩
          have HKD : Hid (Kp No wb wd) := Lib.hid (by rw [← hwd]; exact HKX.out.drew)
          have HKD1 : Hid (Kp No w1 wd) := Lib.hid (by rw [← hwd]; exact (Kp.refl _ _).drew)
          have hzd := HZ1.out.kept HKD1.out (fun h => h)
          have b1 : wd.cell? ⟨b, 1, none⟩ = some _ := Blk.cell (HB1.out.kept HKD1.out (fun h => h)) rfl
          have b2 : wd.cell? ⟨b, 2, none⟩ = some _ := Blk.cell (HB1.out.kept HKD1.out (fun h => h)) rfl
          have z8 : wd.cell? ⟨z, 8, none⟩ = some _ := Blk.cell hzd rfl
          have fz := Blk.fr hzd
          obtain ⟨w6, hw6⟩ : ∃ v, wd.setCell ⟨z, 8, none⟩ (.int .i64 1) = v := ⟨_, rfl⟩
          have HZ6 : Hid (Blk w6 z 118 (RowD.cells { r with what := 1 } hv)) := Lib.hid (by rw [← hw6]; exact Blk.set hzd 8 (.int .i64 1))
          have HK6 : Hid (Kp (· = z) w1 w6) := Lib.hid (by rw [← hw6]; exact HKD1.out.any.trans' ((Kp.refl (· = z) wd).setCell (p := ⟨z, 8, none⟩) (fun _ => rfl) _))
          clear hzd
          refine Reg.wp_region_plan [⟨0, false, []⟩, ⟨1, false, []⟩, ⟨2, false, []⟩, ⟨3, false, []⟩, ⟨4, false, []⟩, ⟨5, false, []⟩, ⟨6, true, [2, 3]⟩, ⟨7, false, []⟩, ⟨8, false, []⟩, ⟨9, true, []⟩] rfl (by kernel_rfl) ?_
          rw [hwd]
          clear hwd
          repeat (first | (refine Reg.look rfl rfl rfl (by go_simp; rfl) rfl ?_; go_simp) | (refine Reg.skip rfl rfl rfl ?_; go_simp))
          refine Reg.act rfl ?_
          go_wp2_with fail
          try rw [hw6]
          clear hw6 b1 b2 z8 fz
          have hbz : b ≠ z := by have := HZW.out; omega
          have b1 : w6.cell? ⟨b, 1, none⟩ = some _ := Blk.cell (HB1.out.kept HK6.out hbz) rfl
          have b2 : w6.cell? ⟨b, 2, none⟩ = some _ := Blk.cell (HB1.out.kept HK6.out hbz) rfl
          have z11 : w6.cell? ⟨z, 11, none⟩ = some _ := Blk.cell HZ6.out rfl
          have z12 : w6.cell? ⟨z, 12, none⟩ = some _ := Blk.cell HZ6.out rfl
          have fz := Blk.fr HZ6.out
          obtain ⟨w7, hw7⟩ : ∃ v, (w6.setCell ⟨z, 11, none⟩ (.int .i64 d2)).setCell ⟨z, 12, none⟩ (.int .i64 d3) = v := ⟨_, rfl⟩
          have HZ7 : Hid (Blk w7 z 118 (RowD.cells { r with what := 1, an := d2, ae := d3 } hv)) := Lib.hid (by rw [← hw7]; exact Blk.set (Blk.set HZ6.out 11 (.int .i64 d2)) 12 (.int .i64 d3))
          have HK7 : Hid (Kp (· = z) w1 w7) := Lib.hid (by rw [← hw7]; exact (HK6.out.setCell (p := ⟨z, 11, none⟩) (fun _ => rfl) _).setCell (p := ⟨z, 12, none⟩) (fun _ => rfl) _)
          clear hbz
          (refine ⟨?anew, ?_⟩; case anew => ((repeat (refine Reg.anew_cons rfl rfl (fun _ => by go_simp) ?_)); exact Reg.anew_nil))
          repeat (first | (refine Reg.look rfl rfl rfl (by go_simp; rfl) rfl ?_; go_simp) | (refine Reg.skip rfl rfl rfl ?_; go_simp))
          refine Reg.act rfl ?_
          go_wp2_with fail
          try rw [hw7]
          clear hw7 b1 b2 z11 z12 fz
          refine ⟨Reg.anew_nil, ?_⟩
          (refine Reg.done ?_; simp only [Exit.then])
          have hxz : x ≠ z := by have h1 := HZW.out; have h2 := HXW.out; omega
          have hyz : y ≠ z := by have h1 := HZW.out; omega
          have hx7 := HX.out.kept HK7.out hxz
          have hy7 := HY1.out.kept HK7.out hyz
          have hld := run_load_rep hx7
          have HLD := Lib.hid hld
          obtain ⟨w5, hst, hb5, hk5⟩ := store_rep (repD r.n 0 p) none none 0 0 0 0 hy7 rfl
          have HST := Lib.hid hst
          have HB5 := Lib.hid hb5
          have HK5y := Lib.hid hk5
          clear hst hb5 hk5
          unfold repW repD at HST HLD
          clear hxz hyz hx7 hy7 hld
          go_upto_region 9 with fail
          go_wp2_with (first | (refine wpl_load (by first | rfl | go_simp) 75 _ rfl _ _ rfl HLD.out ?_; go_simp) | (refine wpl_store (by first | rfl | go_simp) 75 _ _ rfl _ _ (by go_simp) (by go_simp) HST.out ?_; go_simp))
          have HK5 : Hid (Kp (· = z) w w5) := Lib.hid ((HK1.out.any.trans' HK7.out).trans HK5y.out (fun k hk e => by have := HZW.out; omega))
          exact bodyPost_ret (results_cuD rfl _ _ y _ _ _ _ rfl HB5.out Tryz.underlying75 rfl (by kernel_rfl)) rfl ⟨.slice none 0 0, .slice none 0 0, hv, rfl, HZ7.out.kept HK5y.out (by have h1 := HZW.out; omega), Rp.str.slice.more (Rp.str.slice.kept HRH.out HK5.out (fun k h _ e => HTZ.out k h e)) (fun k h => .inl h), Rp.none_ _ _ _, Rp.none_ _ _ _, ⟨HNU.out.1, rfl, HPN.out.1, HPN.out.2, Nat.zero_le _⟩, ⟨HNU.out.1, HNU.out.2.1, rfl, HNU.out.2.2.2.1, HNU.out.2.2.2.2.1, HDN.out.2.1, HDN.out.2.2, HNU.out.2.2.2.2.2.2.2⟩, HK5.out⟩
      case neg =>
        have k1 : (r.ask.kind == 1) = false := beq_eq_false_iff_ne.2 h1
        have k2 : (r.ask.kind == 2) = true := beq_iff_eq.2 (h12.resolve_left h1)
        clear h1 h12
        by_cases hd : d1 = 0
        case neg =>
          rw [if_neg hd] at HQ
          have hdb : (d1 != 0) = true := bne_iff_ne.2 hd
          have e := HQ.out
          subst e
          have b0 : w1.cell? ⟨b, 0, none⟩ = some _ := Blk.cell HB1.out rfl
          clear hd HQ
          go_upto_region 7 with fail
          clear b0
          obtain ⟨wd, hwd⟩ : ∃ v, w1.drew = v := ⟨_, rfl⟩
          have HKD : Hid (Kp No wb wd) := Lib.hid (by rw [← hwd]; exact HKX.out.drew)
          have HKD1 : Hid (Kp No w1 wd) := Lib.hid (by rw [← hwd]; exact (Kp.refl _ _).drew)
          clear z1
          have z0 : wd.cell? ⟨z, 0, none⟩ = some _ := Blk.cell (HZ.out.kept HKD.out (fun h => h)) rfl
          have z1 : wd.cell? ⟨z, 1, none⟩ = some _ := Blk.cell (HZ.out.kept HKD.out (fun h => h)) rfl
          have z2 : wd.cell? ⟨z, 2, none⟩ = some _ := Blk.cell (HZ.out.kept HKD.out (fun h => h)) rfl
          have z3 : wd.cell? ⟨z, 3, none⟩ = some _ := Blk.cell (HZ.out.kept HKD.out (fun h => h)) rfl
          have z4 : wd.cell? ⟨z, 4, none⟩ = some _ := Blk.cell (HZ.out.kept HKD.out (fun h => h)) rfl
          have z5 : wd.cell? ⟨z, 5, none⟩ = some _ := Blk.cell (HZ.out.kept HKD.out (fun h => h)) rfl
          have z6 : wd.cell? ⟨z, 6, none⟩ = some _ := Blk.cell (HZ.out.kept HKD.out (fun h => h)) rfl
          have z7 : wd.cell? ⟨z, 7, none⟩ = some _ := Blk.cell (HZ.out.kept HKD.out (fun h => h)) rfl
          have b0 : wd.cell? ⟨b, 0, none⟩ = some _ := Blk.cell (HB1.out.kept HKD1.out (fun h => h)) rfl
          have HR7 := Lib.hid (k_reply r d1 (0, 0) wd)
          unfold reqW at HR7
          refine Reg.wp_region_plan [⟨0, false, []⟩, ⟨1, false, []⟩, ⟨2, false, []⟩, ⟨3, false, []⟩, ⟨4, false, []⟩, ⟨5, false, []⟩, ⟨6, false, []⟩, ⟨7, true, []⟩, ⟨8, true, []⟩, ⟨9, false, []⟩] rfl (by kernel_rfl) ?_
          rw [hwd]
          clear hwd
          repeat (first | (refine Reg.look rfl rfl rfl (by go_simp; rfl) rfl ?_; go_simp) | (refine Reg.skip rfl rfl rfl ?_; go_simp))
          refine Reg.act rfl ?_
          go_wp2_with fail
          refine HR7.out.mono ?_
          rintro e w3 ⟨rfl, hk3⟩
          unfold repW repD
          have hy3 := HY1.out.kept (HKD1.out.trans' hk3) (fun h => h)
          have HK3 := Lib.hid (HK1.out.trans' (HKD1.out.trans' hk3))
          clear hk3 HR7 b0
          clear z0 z1 z2 z3 z4 z5 z6 z7
          obtain ⟨w5, hst, hb5, hk5⟩ := store_rep (repD r.n d1 (0, 0)) none none 0 0 0 0 hy3 rfl
          have HST := Lib.hid hst
          have HB5 := Lib.hid hb5
          have HK5y := Lib.hid hk5
          clear hst hb5 hk5
          clear hy3
          unfold repW repD at HST
          go_wp2_with fail
          refine ⟨Reg.anew_nil, ?_⟩
          refine Reg.act rfl ?_
          go_wp2_with (refine wpl_store (by first | rfl | go_simp) 75 _ _ rfl _ _ (by go_simp) (by go_simp) HST.out ?_; go_simp)
          refine ⟨Reg.anew_nil, ?_⟩
          repeat (first | (refine Reg.look rfl rfl rfl (by go_simp; rfl) rfl ?_; go_simp) | (refine Reg.skip rfl rfl rfl ?_; go_simp))
          (refine Reg.done ?_; simp only [Exit.then])
          go_wp2_with fail
          have HK5 : Hid (Kp No w w5) := Lib.hid (HK3.out.trans HK5y.out (fun k hk e => by have := HZW.out; omega))
          exact bodyPost_ret (results_cuD rfl _ _ y _ _ _ _ rfl HB5.out Tryz.underlying75 rfl (by kernel_rfl)) rfl ⟨.slice none 0 0, .slice none 0 0, hv, rfl, HZ0.out.kept HK5.out (fun h => h), Rp.str.slice.more (Rp.str.slice.keptNo HRH.out HK5.out) (fun k h => .inl h), (Rp.none_ _ _ _), (Rp.none_ _ _ _), ⟨HNU.out.1, HDN.out.1, rfl, rfl, Nat.zero_le _⟩, HNU.out, Kp.any HK5.out⟩
        case pos =>
          subst hd
          rw [if_pos rfl] at HQ
          have e := HQ.out
          subst e
          have b0 : w1.cell? ⟨b, 0, none⟩ = some _ := Blk.cell HB1.out rfl
          clear HQ
          go_upto_region 8 with fail
          clear b0 z1
          obtain ⟨wd, hwd⟩ : ∃ v, w1.drew = v := ⟨_, rfl⟩
          have HKD : Hid (Kp No wb wd) := Lib.hid (by rw [← hwd]; exact HKX.out.drew)
          have HKD1 : Hid (Kp No w1 wd) := Lib.hid (by rw [← hwd]; exact (Kp.refl _ _).drew)
          have hzd := HZ1.out.kept HKD1.out (fun h => h)
          have b1 : wd.cell? ⟨b, 1, none⟩ = some _ := Blk.cell (HB1.out.kept HKD1.out (fun h => h)) rfl
          have b2 : wd.cell? ⟨b, 2, none⟩ = some _ := Blk.cell (HB1.out.kept HKD1.out (fun h => h)) rfl
          have z8 : wd.cell? ⟨z, 8, none⟩ = some _ := Blk.cell hzd rfl
          have fz := Blk.fr hzd
          obtain ⟨w6, hw6⟩ : ∃ v, wd.setCell ⟨z, 8, none⟩ (.int .i64 1) = v := ⟨_, rfl⟩
          have HZ6 : Hid (Blk w6 z 118 (RowD.cells { r with what := 1 } hv)) := Lib.hid (by rw [← hw6]; exact Blk.set hzd 8 (.int .i64 1))
          have HK6 : Hid (Kp (· = z) w1 w6) := Lib.hid (by rw [← hw6]; exact HKD1.out.any.trans' ((Kp.refl (· = z) wd).setCell (p := ⟨z, 8, none⟩) (fun _ => rfl) _))
          clear hzd
          refine Reg.wp_region_plan [⟨0, false, []⟩, ⟨1, false, []⟩, ⟨2, false, []⟩, ⟨3, false, []⟩, ⟨4, false, []⟩, ⟨5, false, []⟩, ⟨6, true, [2, 3]⟩, ⟨7, false, []⟩, ⟨8, false, []⟩, ⟨9, true, []⟩] rfl (by kernel_rfl) ?_
          rw [hwd]
          clear hwd
          repeat (first | (refine Reg.look rfl rfl rfl (by go_simp; rfl) rfl ?_; go_simp) | (refine Reg.skip rfl rfl rfl ?_; go_simp))
          refine Reg.act rfl ?_
          go_wp2_with fail
          try rw [hw6]
          clear hw6 b1 b2 z8 fz
          have hbz : b ≠ z := by have := HZW.out; omega
          have b1 : w6.cell? ⟨b, 1, none⟩ = some _ := Blk.cell (HB1.out.kept HK6.out hbz) rfl
          have b2 : w6.cell? ⟨b, 2, none⟩ = some _ := Blk.cell (HB1.out.kept HK6.out hbz) rfl
          have z11 : w6.cell? ⟨z, 11, none⟩ = some _ := Blk.cell HZ6.out rfl
          have z12 : w6.cell? ⟨z, 12, none⟩ = some _ := Blk.cell HZ6.out rfl
          have fz := Blk.fr HZ6.out
          obtain ⟨w7, hw7⟩ : ∃ v, (w6.setCell ⟨z, 11, none⟩ (.int .i64 d2)).setCell ⟨z, 12, none⟩ (.int .i64 d3) = v := ⟨_, rfl⟩
          have HZ7 : Hid (Blk w7 z 118 (RowD.cells { r with what := 1, an := d2, ae := d3 } hv)) := Lib.hid (by rw [← hw7]; exact Blk.set (Blk.set HZ6.out 11 (.int .i64 d2)) 12 (.int .i64 d3))
          have HK7 : Hid (Kp (· = z) w1 w7) := Lib.hid (by rw [← hw7]; exact (HK6.out.setCell (p := ⟨z, 11, none⟩) (fun _ => rfl) _).setCell (p := ⟨z, 12, none⟩) (fun _ => rfl) _)
          clear hbz
          (refine ⟨?anew, ?_⟩; case anew => ((repeat (refine Reg.anew_cons rfl rfl (fun _ => by go_simp) ?_)); exact Reg.anew_nil))
          repeat (first | (refine Reg.look rfl rfl rfl (by go_simp; rfl) rfl ?_; go_simp) | (refine Reg.skip rfl rfl rfl ?_; go_simp))
          refine Reg.act rfl ?_
          go_wp2_with fail
          try rw [hw7]
          clear hw7 b1 b2 z11 z12 fz
          refine ⟨Reg.anew_nil, ?_⟩
          (refine Reg.done ?_; simp only [Exit.then])
          have hxz : x ≠ z := by have h1 := HZW.out; have h2 := HXW.out; omega
          have hyz : y ≠ z := by have h1 := HZW.out; omega
          have hx7 := HX.out.kept HK7.out hxz
          have hy7 := HY1.out.kept HK7.out hyz
          have hld := run_load_rep hx7
          have HLD := Lib.hid hld
          obtain ⟨w5, hst, hb5, hk5⟩ := store_rep (repD r.n 0 p) none none 0 0 0 0 hy7 rfl
          have HST := Lib.hid hst
          have HB5 := Lib.hid hb5
          have HK5y := Lib.hid hk5
          clear hst hb5 hk5
          unfold repW repD at HST HLD
          clear hxz hyz hx7 hy7 hld
          go_upto_region 9 with fail
          go_wp2_with (first | (refine wpl_load (by first | rfl | go_simp) 75 _ rfl _ _ rfl HLD.out ?_; go_simp) | (refine wpl_store (by first | rfl | go_simp) 75 _ _ rfl _ _ (by go_simp) (by go_simp) HST.out ?_; go_simp))
          have HK5 : Hid (Kp (· = z) w w5) := Lib.hid ((HK1.out.any.trans' HK7.out).trans HK5y.out (fun k hk e => by have := HZW.out; omega))
          exact bodyPost_ret (results_cuD rfl _ _ y _ _ _ _ rfl HB5.out Tryz.underlying75 rfl (by kernel_rfl)) rfl ⟨.slice none 0 0, .slice none 0 0, hv, rfl, HZ7.out.kept HK5y.out (by have h1 := HZW.out; omega), Rp.str.slice.more (Rp.str.slice.kept HRH.out HK5.out (fun k h _ e => HTZ.out k h e)) (fun k h => .inl h), Rp.none_ _ _ _, Rp.none_ _ _ _, ⟨HNU.out.1, rfl, HPN.out.1, HPN.out.2, Nat.zero_le _⟩, ⟨HNU.out.1, HNU.out.2.1, rfl, HNU.out.2.2.2.1, HNU.out.2.2.2.2.1, HDN.out.2.1, HDN.out.2.2, HNU.out.2.2.2.2.2.2.2⟩, HK5.out⟩
    case neg =>
    rw [if_neg h12] at HQ
    have k1 : (r.ask.kind == 1) = false := beq_eq_false_iff_ne.2 (fun h => h12 (.inl h))
    have k2 : (r.ask.kind == 2) = false := beq_eq_false_iff_ne.2 (fun h => h12 (.inr h))
    clear h12
    by_cases h3 : r.ask.kind = 3
    case pos =>
      rw [if_pos h3] at HQ
      have k3 : (r.ask.kind == 3) = true := beq_iff_eq.2 h3
      have hnm := a_names B l LL FL w1 (HLA.out w1 HKX.out) HOK.out
      obtain ⟨gl, hgl⟩ : ∃ v, namesL LL = v := ⟨_, rfl⟩
      rw [hgl] at hnm HQ
      have e := HQ.out
      subst e
      have HNM := Lib.hid hnm
      clear hnm hgl h3 HQ
      go_wp2_with fail
      refine HNM.out.mono ?_
      rintro e w2 ⟨A2, c2, rfl, hown, hk2⟩
      have HO2 := Lib.hid hown
      have hx2 := HX.out.kept hk2 (fun h => h)
      have x4 : w2.cell? ⟨x, 4, none⟩ = some _ := Blk.cell hx2 rfl
      have fx := Blk.fr hx2
      obtain ⟨w3, hw3⟩ : ∃ v, w2.setCell ⟨x, 4, none⟩ (.slice A2 gl.length c2) = v := ⟨_, rfl⟩
      have hx3 : Blk w3 x 75 (RepL.cells ({ repD r.n 0 p with names := gl }) (.slice A2 gl.length c2) (.slice none 0 0)) := by rw [← hw3]; exact Blk.set hx2 4 (.slice A2 gl.length c2)
      have hkx3 : Kp (· = x) w2 w3 := by rw [← hw3]; exact (Kp.refl (· = x) w2).setCell (p := ⟨x, 4, none⟩) (fun _ => rfl) _
      have HK2 := Lib.hid hk2
      have HKX3 := Lib.hid hkx3
      have hyx : y ≠ x := by have h1 := HZW.out; have h2 := HXW.out; omega
      have hy3 := (HY1.out.kept hk2 (fun h => h)).kept hkx3 hyx
      have HLD := Lib.hid (run_load_rep hx3)
      obtain ⟨w5, hst, hb5, hk5⟩ := store_rep ({ repD r.n 0 p with names := gl }) A2 none gl.length c2 0 0 hy3 rfl
      have HST := Lib.hid hst
      have HB5 := Lib.hid hb5
      have HK5y := Lib.hid hk5
      clear hst hb5 hk5
      unfold repW repD at HST HLD
      clear hown hx2 hx3 hk2 hkx3 hyx hy3 z1 HNM
      go_upto_region 20 with fail
      try rw [hw3]
      clear hw3 x4 fx
      go_wp2_with (first | (refine wpl_load (by first | rfl | go_simp) 75 _ rfl _ _ rfl HLD.out ?_; go_simp) | (refine wpl_store (by first | rfl | go_simp) 75 _ _ rfl _ _ (by go_simp) (by go_simp) HST.out ?_; go_simp))
      have hk25 : Kp (fun k => k = x ∨ k = y) w2 w5 := (HKX3.out.mono (fun k _ h => .inl h)).trans HK5y.out (fun k _ h => .inr h)
      have HK25 := Lib.hid hk25
      have HK5 : Hid (Kp No w w5) := Lib.hid ((HK1.out.trans' HK2.out).trans hk25 (fun k hk e => by have h1 := HZW.out; have h2 := HXW.out; have h3 := HKA.out.size; omega))
      clear hk25
      exact bodyPost_ret (results_cuD rfl _ _ y _ _ _ _ rfl HB5.out Tryz.underlying75 rfl (by kernel_rfl)) rfl ⟨.slice A2 gl.length c2, .slice none 0 0, hv, rfl, HZ0.out.kept HK5.out (fun h => h), Rp.str.slice.more (Rp.str.slice.keptNo HRH.out HK5.out) (fun k h => .inl h), (rd_str HO2.out.readFrom HK25.out HXL.out HYL.out HK1.out.size), (Rp.none_ _ _ _), ⟨HNU.out.1, rfl, HPN.out.1, HPN.out.2, Nat.zero_le _⟩, HNU.out, Kp.any HK5.out⟩
    case neg =>
    rw [if_neg h3] at HQ
    have k3 : (r.ask.kind == 3) = false := beq_eq_false_iff_ne.2 h3
    clear h3
    by_cases h6 : r.ask.kind = 6
    case pos =>
      rw [if_pos h6] at HQ
      have k6 : (r.ask.kind == 6) = true := beq_iff_eq.2 h6
      have hnm := a_lost l LL FL w1 (HLA.out w1 HKX.out) (by have := HOK.out.lost; omega) HOK.out.hashesLost
      obtain ⟨gl, hgl⟩ : ∃ v, LL.lost = v := ⟨_, rfl⟩
      rw [hgl] at hnm HQ
      have e := HQ.out
      subst e
      have HNM := Lib.hid hnm
      clear hnm hgl h6 HQ
      go_wp2_with fail
      refine HNM.out.mono ?_
      rintro e w2 ⟨A2, c2, rfl, hown, hk2⟩
      have HO2 := Lib.hid hown
      have hx2 := HX.out.kept hk2 (fun h => h)
      have x4 : w2.cell? ⟨x, 6, none⟩ = some _ := Blk.cell hx2 rfl
      have fx := Blk.fr hx2
      obtain ⟨w3, hw3⟩ : ∃ v, w2.setCell ⟨x, 6, none⟩ (.slice A2 gl.length c2) = v := ⟨_, rfl⟩
      have hx3 : Blk w3 x 75 (RepL.cells ({ repD r.n 0 p with lost := gl }) (.slice none 0 0) (.slice A2 gl.length c2)) := by rw [← hw3]; exact Blk.set hx2 6 (.slice A2 gl.length c2)
      have hkx3 : Kp (· = x) w2 w3 := by rw [← hw3]; exact (Kp.refl (· = x) w2).setCell (p := ⟨x, 6, none⟩) (fun _ => rfl) _
      have HK2 := Lib.hid hk2
      have HKX3 := Lib.hid hkx3
      have hyx : y ≠ x := by have h1 := HZW.out; have h2 := HXW.out; omega
      have hy3 := (HY1.out.kept hk2 (fun h => h)).kept hkx3 hyx
      have HLD := Lib.hid (run_load_rep hx3)
      obtain ⟨w5, hst, hb5, hk5⟩ := store_rep ({ repD r.n 0 p with lost := gl }) none A2 0 0 gl.length c2 hy3 rfl
      have HST := Lib.hid hst
      have HB5 := Lib.hid hb5
      have HK5y := Lib.hid hk5
      clear hst hb5 hk5
      unfold repW repD at HST HLD
      clear hown hx2 hx3 hk2 hkx3 hyx hy3 z1 HNM
      go_upto_region 20 with fail
      try rw [hw3]
      clear hw3 x4 fx
      go_wp2_with (first | (refine wpl_load (by first | rfl | go_simp) 75 _ rfl _ _ rfl HLD.out ?_; go_simp) | (refine wpl_store (by first | rfl | go_simp) 75 _ _ rfl _ _ (by go_simp) (by go_simp) HST.out ?_; go_simp))
      have hk25 : Kp (fun k => k = x ∨ k = y) w2 w5 := (HKX3.out.mono (fun k _ h => .inl h)).trans HK5y.out (fun k _ h => .inr h)
      have HK25 := Lib.hid hk25
      have HK5 : Hid (Kp No w w5) := Lib.hid ((HK1.out.trans' HK2.out).trans hk25 (fun k hk e => by have h1 := HZW.out; have h2 := HXW.out; have h3 := HKA.out.size; omega))
      clear hk25
      exact bodyPost_ret (results_cuD rfl _ _ y _ _ _ _ rfl HB5.out Tryz.underlying75 rfl (by kernel_rfl)) rfl ⟨.slice none 0 0, .slice A2 gl.length c2, hv, rfl, HZ0.out.kept HK5.out (fun h => h), Rp.str.slice.more (Rp.str.slice.keptNo HRH.out HK5.out) (fun k h => .inl h), (Rp.none_ _ _ _), (rd_opl HO2.out.readFrom HK25.out HXL.out HYL.out HK1.out.size), ⟨HNU.out.1, rfl, HPN.out.1, HPN.out.2, Nat.zero_le _⟩, HNU.out, Kp.any HK5.out⟩
    case neg =>
    rw [if_neg h6] at HQ
    have k6 : (r.ask.kind == 6) = false := beq_eq_false_iff_ne.2 h6
    clear h6
    by_cases h4 : r.ask.kind = 4
    case neg =>
      rw [if_neg h4] at HQ
      have e := HQ.out
      subst e
      have k4 : (r.ask.kind == 4) = false := beq_eq_false_iff_ne.2 h4
      have HR7 := Lib.hid (k_reply r 1 (0, 0) w1)
      unfold reqW at HR7
      clear z1 h4 HQ
      have z0 : w1.cell? ⟨z, 0, none⟩ = some _ := Blk.cell (HZ.out.kept HKX.out (fun h => h)) rfl
      have z1 : w1.cell? ⟨z, 1, none⟩ = some _ := Blk.cell (HZ.out.kept HKX.out (fun h => h)) rfl
      have z2 : w1.cell? ⟨z, 2, none⟩ = some _ := Blk.cell (HZ.out.kept HKX.out (fun h => h)) rfl
      have z3 : w1.cell? ⟨z, 3, none⟩ = some _ := Blk.cell (HZ.out.kept HKX.out (fun h => h)) rfl
      have z4 : w1.cell? ⟨z, 4, none⟩ = some _ := Blk.cell (HZ.out.kept HKX.out (fun h => h)) rfl
      have z5 : w1.cell? ⟨z, 5, none⟩ = some _ := Blk.cell (HZ.out.kept HKX.out (fun h => h)) rfl
      have z6 : w1.cell? ⟨z, 6, none⟩ = some _ := Blk.cell (HZ.out.kept HKX.out (fun h => h)) rfl
      have z7 : w1.cell? ⟨z, 7, none⟩ = some _ := Blk.cell (HZ.out.kept HKX.out (fun h => h)) rfl
      go_wp2_with fail
      refine HR7.out.mono ?_
      rintro e w3 ⟨rfl, hk3⟩
      unfold repW repD
      have hy3 := HY1.out.kept hk3 (fun h => h)
      have HK3 := Lib.hid (HK1.out.trans' hk3)
      clear hk3 HR7
      clear z0 z1 z2 z3 z4 z5 z6 z7
      obtain ⟨w5, hst, hb5, hk5⟩ := store_rep (repD r.n 1 (0, 0)) none none 0 0 0 0 hy3 rfl
      have HST := Lib.hid hst
      have HB5 := Lib.hid hb5
      have HK5y := Lib.hid hk5
      clear hst hb5 hk5
      clear hy3
      unfold repW repD at HST
      go_wp2_with (refine wpl_store (by first | rfl | go_simp) 75 _ _ rfl _ _ (by go_simp) (by go_simp) HST.out ?_; go_simp)
      have HK5 : Hid (Kp No w w5) := Lib.hid (HK3.out.trans HK5y.out (fun k hk e => by have := HZW.out; omega))
      exact bodyPost_ret (results_cuD rfl _ _ y _ _ _ _ rfl HB5.out Tryz.underlying75 rfl (by kernel_rfl)) rfl ⟨.slice none 0 0, .slice none 0 0, hv, rfl, HZ0.out.kept HK5.out (fun h => h), Rp.str.slice.more (Rp.str.slice.keptNo HRH.out HK5.out) (fun k h => .inl h), (Rp.none_ _ _ _), (Rp.none_ _ _ _), ⟨HNU.out.1, rfl, rfl, rfl, Nat.zero_le _⟩, HNU.out, Kp.any HK5.out⟩
    case pos =>
    rw [if_pos h4] at HQ
    have k4 : (r.ask.kind == 4) = true := beq_iff_eq.2 h4
    have hsb := HOK.out.sheet r.ask.name
    have hsh := a_sheet r.ask.name l LL FL w1 (HLA.out w1 HKX.out) (by omega)
    obtain ⟨LB, hLB⟩ : ∃ v, (mget r.ask.name LL.fold.live).isSome = v := ⟨_, rfl⟩
    obtain ⟨⟨ss, sl⟩, hS⟩ : ∃ v, sheetOf r.ask.name LL = v := ⟨_, rfl⟩
    rw [hS] at hsb hsh HQ
    rw [hLB] at hsh HQ
    simp only at hsb hsh HQ
    have HSB := Lib.hid hsb
    have HSH := Lib.hid hsh
    have z4 : w1.cell? ⟨z, 4, none⟩ = some _ := Blk.cell HZ1.out rfl
    clear hsb hsh hLB hS h4
    go_wp2_with fail
    refine HSH.out.mono ?_
    rintro e w2 ⟨A2, c2, rfl, hrd, hk2⟩
    obtain ⟨u, hu⟩ : ∃ v, w2.heap.size = v := ⟨_, rfl⟩
    obtain ⟨w3, hw3⟩ : ∃ v, w2.alloc (.cells #[.int .i64 ss, .slice A2 sl.length c2] 34) = v := ⟨_, rfl⟩
    have hk3 : Kp No w2 w3 := by rw [← hw3]; exact (Kp.refl _ _).alloc _
    have HU : Hid (Blk w3 u 34 [.int .i64 ss, .slice A2 sl.length c2]) := Lib.hid (by rw [← hw3, ← hu]; exact Blk.new _ _ _)
    have HUW : Hid (w1.heap.size ≤ u) := Lib.hid (by rw [← hu]; exact hk2.size)
    have HRD := Lib.hid (Rp.str.slice.keptNo hrd hk3)
    have HK13 := Lib.hid (hk2.trans' hk3)
    clear hrd hk2 hk3 z1 z4 HSH
    go_upto_region 16 with fail
    try rw [hw3]
    try rw [hu]
    clear hw3 hu
    cases LB
    case false =>
      rw [if_neg (by simp)] at HQ
      have e := HQ.out
      subst e
      have hx3 := HX.out.kept HK13.out (fun h => h)
      have x1 : w3.cell? ⟨x, 1, none⟩ = some _ := Blk.cell hx3 rfl
      have fx := Blk.fr hx3
      obtain ⟨w4, hw4⟩ : ∃ v, w3.setCell ⟨x, 1, none⟩ (.int .i64 123) = v := ⟨_, rfl⟩
      have hx4 : Blk w4 x 75 (RepL.cells (repD r.n 123 p) (.slice none 0 0) (.slice none 0 0)) := by rw [← hw4]; exact Blk.set hx3 1 (.int .i64 123)
      have hk4 : Kp (· = x) w3 w4 := by rw [← hw4]; exact (Kp.refl (· = x) w3).setCell (p := ⟨x, 1, none⟩) (fun _ => rfl) _
      have hyx : y ≠ x := by have h1 := HZW.out; have h2 := HXW.out; omega
      have hy4 := (HY1.out.kept HK13.out (fun h => h)).kept hk4 hyx
      have HLD := Lib.hid (run_load_rep hx4)
      have HK4 := Lib.hid hk4
      obtain ⟨w5, hst, hb5, hk5⟩ := store_rep (repD r.n 123 p) none none 0 0 0 0 hy4 rfl
      have HST := Lib.hid hst
      have HB5 := Lib.hid hb5
      have HK5y := Lib.hid hk5
      clear hst hb5 hk5
      unfold repW repD at HST HLD
      clear hx3 hx4 hk4 hyx hy4 HQ
      go_upto_region 20 with fail
      try rw [hw4]
      clear hw4 x1 fx
      go_wp2_with (first | (refine wpl_load (by first | rfl | go_simp) 75 _ rfl _ _ rfl HLD.out ?_; go_simp) | (refine wpl_store (by first | rfl | go_simp) 75 _ _ rfl _ _ (by go_simp) (by go_simp) HST.out ?_; go_simp))
      have HK5 : Hid (Kp No w w5) := Lib.hid (((HK1.out.trans' HK13.out).trans HK4.out (fun k hk e => by have h1 := HZW.out; have h2 := HXW.out; have h3 := HKA.out.size; omega)).trans HK5y.out (fun k hk e => by have h1 := HZW.out; omega))
      exact bodyPost_ret (results_cuD rfl _ _ y _ _ _ _ rfl HB5.out Tryz.underlying75 rfl (by kernel_rfl)) rfl ⟨.slice none 0 0, .slice none 0 0, hv, rfl, HZ0.out.kept HK5.out (fun h => h), Rp.str.slice.more (Rp.str.slice.keptNo HRH.out HK5.out) (fun k h => .inl h), (Rp.none_ _ _ _), (Rp.none_ _ _ _), ⟨HNU.out.1, rfl, HPN.out.1, HPN.out.2, Nat.zero_le _⟩, HNU.out, Kp.any HK5.out⟩
    case true =>
      rw [if_pos rfl] at HQ
      have e := HQ.out
      subst e
      clear HQ
      go_upto_region 17 with fail
      obtain ⟨wd, hwd⟩ : ∃ v, w3.drew = v := ⟨_, rfl⟩
      have HKD3 : Hid (Kp No w3 wd) := Lib.hid (by rw [← hwd]; exact (Kp.refl _ _).drew)
      have HKD : Hid (Kp No wb wd) := Lib.hid ((HKX.out.trans' HK13.out).trans' HKD3.out)
      have u0 : wd.cell? ⟨u, 0, none⟩ = some _ := Blk.cell (HU.out.kept HKD3.out (fun h => h)) rfl
      have u1 : wd.cell? ⟨u, 1, none⟩ = some _ := Blk.cell (HU.out.kept HKD3.out (fun h => h)) rfl
      refine Reg.wp_region_plan [⟨0, false, []⟩, ⟨1, false, []⟩, ⟨2, false, []⟩, ⟨3, false, []⟩, ⟨5, false, []⟩, ⟨4, true, [5]⟩, ⟨6, false, []⟩, ⟨7, false, []⟩, ⟨8, true, [5]⟩, ⟨9, false, []⟩, ⟨10, false, []⟩, ⟨11, true, [5]⟩, ⟨12, false, []⟩, ⟨13, false, []⟩, ⟨14, true, []⟩] rfl (by kernel_rfl) ?_
      rw [hwd]
      clear hwd
      repeat (first | (refine Reg.look rfl rfl rfl (by go_simp; rfl) rfl ?_; go_simp) | (refine Reg.skip rfl rfl rfl ?_; go_simp))
      refine Reg.act rfl ?_
      go_wp2_with fail
      refine (HLT.out wd HKD.out).mono ?_
      rintro e w4 ⟨rfl, hk4⟩
      have HK34 := Lib.hid (HKD3.out.trans' hk4)
      have hz4 := HZ1.out.kept (HK13.out.trans' HK34.out) (fun h => h)
      have z8 : w4.cell? ⟨z, 8, none⟩ = some _ := Blk.cell hz4 rfl
      have fz := Blk.fr hz4
      obtain ⟨w6, hw6⟩ : ∃ v, w4.setCell ⟨z, 8, none⟩ (.int .i64 2) = v := ⟨_, rfl⟩
      have HZ6 : Hid (Blk w6 z 118 (RowD.cells { r with what := 2 } hv)) := Lib.hid (by rw [← hw6]; exact Blk.set hz4 8 (.int .i64 2))
      have HK6 : Hid (Kp (· = z) w3 w6) := Lib.hid (by rw [← hw6]; exact HK34.out.any.trans' ((Kp.refl (· = z) w4).setCell (p := ⟨z, 8, none⟩) (fun _ => rfl) _))
      clear hk4 hz4 u0 u1
      have u0 : w4.cell? ⟨u, 0, none⟩ = some _ := Blk.cell (HU.out.kept HK34.out (fun h => h)) rfl
      have u1 : w4.cell? ⟨u, 1, none⟩ = some _ := Blk.cell (HU.out.kept HK34.out (fun h => h)) rfl
      go_wp2_with fail
      (refine ⟨?anew, ?_⟩; case anew => ((repeat (refine Reg.anew_cons rfl rfl (fun _ => by go_simp) ?_)); exact Reg.anew_nil))
      repeat (first | (refine Reg.look rfl rfl rfl (by go_simp; rfl) rfl ?_; go_simp) | (refine Reg.skip rfl rfl rfl ?_; go_simp))
      refine Reg.act rfl ?_
      go_wp2_with fail
      try rw [hw6]
      clear hw6 z8 fz u0 u1
      have huz : u ≠ z := by have h1 := HZW.out; have h2 := HUW.out; have h3 := HK1.out.size; omega
      have u0 : w6.cell? ⟨u, 0, none⟩ = some _ := Blk.cell (HU.out.kept HK6.out huz) rfl
      have u1 : w6.cell? ⟨u, 1, none⟩ = some _ := Blk.cell (HU.out.kept HK6.out huz) rfl
      have z11 : w6.cell? ⟨z, 11, none⟩ = some _ := Blk.cell HZ6.out rfl
      have z12 : w6.cell? ⟨z, 12, none⟩ = some _ := Blk.cell HZ6.out rfl
      have fz := Blk.fr HZ6.out
      obtain ⟨w7, hw7⟩ : ∃ v, (w6.setCell ⟨z, 11, none⟩ (.int .i64 p.1)).setCell ⟨z, 12, none⟩ (.int .i64 p.2) = v := ⟨_, rfl⟩
      have HZ7 : Hid (Blk w7 z 118 (RowD.cells { r with what := 2, an := p.1, ae := p.2 } hv)) := Lib.hid (by rw [← hw7]; exact Blk.set (Blk.set HZ6.out 11 (.int .i64 p.1)) 12 (.int .i64 p.2))
      have HK7 : Hid (Kp (· = z) w3 w7) := Lib.hid (by rw [← hw7]; exact (HK6.out.setCell (p := ⟨z, 11, none⟩) (fun _ => rfl) _).setCell (p := ⟨z, 12, none⟩) (fun _ => rfl) _)
      (refine ⟨?anew, ?_⟩; case anew => ((repeat (refine Reg.anew_cons rfl rfl (fun _ => by go_simp) ?_)); exact Reg.anew_nil))
      repeat (first | (refine Reg.look rfl rfl rfl (by go_simp; rfl) rfl ?_; go_simp) | (refine Reg.skip rfl rfl rfl ?_; go_simp))
      refine Reg.act rfl ?_
      go_wp2_with fail
      try rw [hw7]
      clear hw7 z11 z12 fz u0 u1
      have u0 : w7.cell? ⟨u, 0, none⟩ = some _ := Blk.cell (HU.out.kept HK7.out huz) rfl
      have u1 : w7.cell? ⟨u, 1, none⟩ = some _ := Blk.cell (HU.out.kept HK7.out huz) rfl
      have z13 : w7.cell? ⟨z, 13, none⟩ = some _ := Blk.cell HZ7.out rfl
      have z14 : w7.cell? ⟨z, 14, none⟩ = some _ := Blk.cell HZ7.out rfl
      have fz := Blk.fr HZ7.out
      obtain ⟨w8, hw8⟩ : ∃ v, (w7.setCell ⟨z, 13, none⟩ (.int .i64 ss)).setCell ⟨z, 14, none⟩ (.slice A2 sl.length c2) = v := ⟨_, rfl⟩
      have HZ8 : Hid (Blk w8 z 118 (RowD.cells { r with what := 2, an := p.1, ae := p.2, size := ss, hashes := sl } (.slice A2 sl.length c2))) := Lib.hid (by rw [← hw8]; exact Blk.set (Blk.set HZ7.out 13 (.int .i64 ss)) 14 (.slice A2 sl.length c2))
      have HK8 : Hid (Kp (· = z) w3 w8) := Lib.hid (by rw [← hw8]; exact (HK7.out.setCell (p := ⟨z, 13, none⟩) (fun _ => rfl) _).setCell (p := ⟨z, 14, none⟩) (fun _ => rfl) _)
      clear huz
      (refine ⟨?anew, ?_⟩; case anew => ((repeat (refine Reg.anew_cons rfl rfl (fun _ => by go_simp) ?_)); exact Reg.anew_nil))
      repeat (first | (refine Reg.look rfl rfl rfl (by go_simp; rfl) rfl ?_; go_simp) | (refine Reg.skip rfl rfl rfl ?_; go_simp))
      refine Reg.act rfl ?_
      go_wp2_with fail
      try rw [hw8]
      clear hw8 z13 z14 fz u0 u1
      refine ⟨Reg.anew_nil, ?_⟩
      (refine Reg.done ?_; simp only [Exit.then])
      have hxz : x ≠ z := by have h1 := HZW.out; have h2 := HXW.out; omega
      have hyz : y ≠ z := by have h1 := HZW.out; omega
      have hx8 := (HX.out.kept HK13.out (fun h => h)).kept HK8.out hxz
      have hy8 := (HY1.out.kept HK13.out (fun h => h)).kept HK8.out hyz
      have HLD := Lib.hid (run_load_rep hx8)
      obtain ⟨w5, hst, hb5, hk5⟩ := store_rep (repD r.n 0 p) none none 0 0 0 0 hy8 rfl
      have HST := Lib.hid hst
      have HB5 := Lib.hid hb5
      have HK5y := Lib.hid hk5
      clear hst hb5 hk5
      unfold repW repD at HST HLD
      clear hxz hyz hx8 hy8
      go_upto_region 18 with fail
      go_wp2_with (first | (refine wpl_load (by first | rfl | go_simp) 75 _ rfl _ _ rfl HLD.out ?_; go_simp) | (refine wpl_store (by first | rfl | go_simp) 75 _ _ rfl _ _ (by go_simp) (by go_simp) HST.out ?_; go_simp))
      have HK5 : Hid (Kp (· = z) w w5) := Lib.hid (((HK1.out.trans' HK13.out).any.trans' HK8.out).trans HK5y.out (fun k hk e => by have := HZW.out; omega))
      have HRF : Hid (Rp.str.slice.R w5 (fun k => T k ∨ w.heap.size ≤ k) [.slice A2 sl.length c2] sl) := Lib.hid (Rp.str.slice.more (Rp.str.slice.kept (Rp.str.slice.kept HRD.out HK8.out (fun k h _ e => by have h1 := HZW.out; have h2 := HK1.out.size; omega)) HK5y.out (fun k h _ e => by have h1 := HZW.out; have h2 := HKX.out.size; omega)) (fun k h => .inr (by have h2 := HK1.out.size; omega)))
      exact bodyPost_ret (results_cuD rfl _ _ y _ _ _ _ rfl HB5.out Tryz.underlying75 rfl (by kernel_rfl)) rfl ⟨.slice none 0 0, .slice none 0 0, .slice A2 sl.length c2, rfl, HZ8.out.kept HK5y.out (by have h1 := HZW.out; omega), HRF.out, Rp.none_ _ _ _, Rp.none_ _ _ _, ⟨HNU.out.1, rfl, HPN.out.1, HPN.out.2, Nat.zero_le _⟩, ⟨HNU.out.1, HNU.out.2.1, rfl, HNU.out.2.2.2.1, HNU.out.2.2.2.2.1, HPN.out.1, HPN.out.2, I64.of (by have := HSB.out; simp only; omega)⟩, HK5.out⟩
end Go.Proofs.YtamfgmlhopjppaaGreat
