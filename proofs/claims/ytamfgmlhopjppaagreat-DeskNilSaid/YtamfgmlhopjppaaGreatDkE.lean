/-
  (*Desk).each, of any closure.
-/
import Derived.Test.YtamfgmlhopjppaaGreatDkM
namespace Go.Proofs.YtamfgmlhopjppaaGreat
open Go.RowKit Go.ChangeShapes Go.WideShapes Go.ChangeAt

/-- one request: its answer, whether it is answered, what it is from now on -/
abbrev HowD := RowD → RepL × Bool × RowD
def eachS (what : Int) (g : HowD) (acc : List RepL × List RowD) (r : RowD) : List RepL × List RowD :=
  if r.what = what then (if (g r).2.1 = true then (acc.1 ++ [(g r).1], acc.2) else (acc.1, acc.2 ++ [(g r).2.2])) else (acc.1, acc.2 ++ [r])
def eachO (what : Int) (g : HowD) (L : List RowD) : List RepL × List RowD := L.foldl (eachS what g) ([], [])
theorem eachO_snoc (what : Int) (g : HowD) (L : List RowD) (r : RowD) : eachO what g (L ++ [r]) = eachS what g (eachO what g L) r := by simp [eachO, List.foldl_append]
theorem eachS_len (what : Int) (g : HowD) (acc : List RepL × List RowD) (r : RowD) : (eachS what g acc r).1.length + (eachS what g acc r).2.length = acc.1.length + acc.2.length + 1 := by
  unfold eachS
  split
  · split <;> simp <;> omega
  · simp; omega
theorem eachO_lenGo (what : Int) (g : HowD) : ∀ (L : List RowD) (acc : List RepL × List RowD), (L.foldl (eachS what g) acc).1.length + (L.foldl (eachS what g) acc).2.length = acc.1.length + acc.2.length + L.length
  | [], acc => by simp
  | r :: L, acc => by
    rw [List.foldl_cons, eachO_lenGo what g L, eachS_len, List.length_cons]; omega
theorem eachO_len (what : Int) (g : HowD) (L : List RowD) : (eachO what g L).1.length + (eachO what g L).2.length = L.length := by
  have := eachO_lenGo what g L ([], [])
  simpa [eachO] using this
/-- what a closure answers -/
def AnsD (z : Nat) (w' : World) (T : Nat → Prop) (q : RepL × Bool × RowD) (e : Ending) (w'' : World) : Prop :=
  ∃ nv lv hv, e = .returned (.tuple #[repW q.1 nv lv, .bool q.2.1]) ∧ Blk w'' z 118 (q.2.2.cells hv) ∧ Rp.str.slice.R w'' (fun k => T k ∨ w'.heap.size ≤ k) [hv] q.2.2.hashes ∧
    Rp.str.slice.R w'' (fun k => w'.heap.size ≤ k) [nv] q.1.names ∧ Rp.opl.slice.R w'' (fun k => w'.heap.size ≤ k) [lv] q.1.lost ∧ q.1.nums ∧ q.2.2.nums ∧ Kp (· = z) w' w''
def rowW (r : RowD) (hv : Value) : Value := .agg #[.int .i64 r.n, .int .i64 r.ask.kind, .int .i64 r.ask.client, .int .i64 r.ask.seq, .string r.ask.name, .string r.ask.data, .int .i64 r.ask.mode, .int .i64 r.ask.lag, .int .i64 r.what, .int .i64 r.index, .int .i64 r.term, .int .i64 r.an, .int .i64 r.ae, .int .i64 r.size, hv]
theorem run_load_rowd {w : World} {z : Nat} {r : RowD} {A : Option Addr} {n c : Nat} (h : Blk w z 118 (r.cells (.slice A n c))) : (Instr.loadAt 118 (.pointer (some ⟨z, 0, none⟩))).run Tryz.prog w = .ok (rowW r (.slice A n c)) w := by
  have y0 : w.cell? ⟨z, 0, none⟩ = some _ := Blk.cell h rfl
  have y1 : w.cell? ⟨z, 1, none⟩ = some _ := Blk.cell h rfl
  have y2 : w.cell? ⟨z, 2, none⟩ = some _ := Blk.cell h rfl
  have y3 : w.cell? ⟨z, 3, none⟩ = some _ := Blk.cell h rfl
  have y4 : w.cell? ⟨z, 4, none⟩ = some _ := Blk.cell h rfl
  have y5 : w.cell? ⟨z, 5, none⟩ = some _ := Blk.cell h rfl
  have y6 : w.cell? ⟨z, 6, none⟩ = some _ := Blk.cell h rfl
  have y7 : w.cell? ⟨z, 7, none⟩ = some _ := Blk.cell h rfl
  have y8 : w.cell? ⟨z, 8, none⟩ = some _ := Blk.cell h rfl
  have y9 : w.cell? ⟨z, 9, none⟩ = some _ := Blk.cell h rfl
  have y10 : w.cell? ⟨z, 10, none⟩ = some _ := Blk.cell h rfl
  have y11 : w.cell? ⟨z, 11, none⟩ = some _ := Blk.cell h rfl
  have y12 : w.cell? ⟨z, 12, none⟩ = some _ := Blk.cell h rfl
  have y13 : w.cell? ⟨z, 13, none⟩ = some _ := Blk.cell h rfl
  have y14 : w.cell? ⟨z, 14, none⟩ = some _ := Blk.cell h rfl
  clear h
  unfold rowW
  go_simp
theorem run_lit_rowd (w : World) (r : RowD) (A : Option Addr) (n c : Nat) : (Instr.buildSlice 112 1 #[(0, rowW r (.slice A n c))]).run Tryz.prog w = .ok (.slice (some ⟨w.heap.size, 0, none⟩) 1 1) (w.alloc (.cells (r.cells (.slice A n c)).toArray 118)) := by
  unfold rowW RowD.cells
  go_simp
theorem run_load_rep {w : World} {z : Nat} {r : RepL} {A B : Option Addr} {n c m e : Nat} (h : Blk w z 75 (r.cells (.slice A n c) (.slice B m e))) : (Instr.loadAt 75 (.pointer (some ⟨z, 0, none⟩))).run Tryz.prog w = .ok (repW r (.slice A n c) (.slice B m e)) w := by
  have y0 : w.cell? ⟨z, 0, none⟩ = some _ := Blk.cell h rfl
  have y1 : w.cell? ⟨z, 1, none⟩ = some _ := Blk.cell h rfl
  have y2 : w.cell? ⟨z, 2, none⟩ = some _ := Blk.cell h rfl
  have y3 : w.cell? ⟨z, 3, none⟩ = some _ := Blk.cell h rfl
  have y4 : w.cell? ⟨z, 4, none⟩ = some _ := Blk.cell h rfl
  have y5 : w.cell? ⟨z, 5, none⟩ = some _ := Blk.cell h rfl
  have y6 : w.cell? ⟨z, 6, none⟩ = some _ := Blk.cell h rfl
  clear h
  unfold repW
  go_simp
theorem run_lit_rep (w : World) (r : RepL) (A B : Option Addr) (n c m e : Nat) : (Instr.buildSlice 60 1 #[(0, repW r (.slice A n c) (.slice B m e))]).run Tryz.prog w = .ok (.slice (some ⟨w.heap.size, 0, none⟩) 1 1) (w.alloc (.cells (r.cells (.slice A n c) (.slice B m e)).toArray 75)) := by
  unfold repW RepL.cells
  go_simp
/-- what answers and requests rest on, amid it -/
def XD (S : Nat → Prop) (b : Nat) (w : World) (ov sv : Value) (k : Nat) : Prop := (S k ∨ b ≤ k) ∧ k < w.heap.size ∧ ov.ownBlock ≠ some k ∧ sv.ownBlock ≠ some k
theorem XD.step {S : Nat → Prop} {b : Nat} {w w' : World} {ov sv ov' sv' : Value} (hs : w.heap.size ≤ w'.heap.size) (ho : ov'.ownBlock = ov.ownBlock ∨ ∃ g, ov'.ownBlock = some g ∧ w.heap.size ≤ g) (hv : sv'.ownBlock = sv.ownBlock ∨ ∃ g, sv'.ownBlock = some g ∧ w.heap.size ≤ g) {k : Nat} (h : XD S b w ov sv k) : XD S b w' ov' sv' k := by
  refine ⟨h.1, by have := h.2.1; omega, fun e => ?_, fun e => ?_⟩
  · rcases ho with ho | ⟨g, ho, hg⟩
    · exact h.2.2.1 (ho ▸ e)
    · rw [ho] at e; injection e with e; have := h.2.1; omega
  · rcases hv with hv | ⟨g, hv, hg⟩
    · exact h.2.2.2 (hv ▸ e)
    · rw [hv] at e; injection e with e; have := h.2.1; omega
/-- one row of those that a call owns -/
theorem Own.at_rowd {w : World} {S : Nat → Prop} {base : Nat} {A : Option Addr} {c : Nat} {l : List RowD} (h : Own Rp.rowd w S base 118 (.slice A l.length c) l) {i : Nat} {o : RowD} (hi : l[i]? = some o) :
    ∃ g H ch, A = some ⟨g, 0, none⟩ ∧ base ≤ g ∧ (∀ (j : Nat) u, (o.cells (.slice H o.hashes.length ch))[j]? = some u → w.cell? ⟨g, i * 15 + j, none⟩ = some u) ∧ o.nums ∧ Rp.str.slice.R w S [.slice H o.hashes.length ch] o.hashes := by
  obtain ⟨xs, ⟨h0, h1⟩, h2, h3⟩ := h
  have hlt := (List.getElem?_eq_some_iff.1 hi).1
  rcases h1 with ⟨he, h1⟩ | ⟨g, cap, cur, he, hb, hg, hn, hm, hc, ht⟩
  · omega
  · injection he with he
    subst he
    obtain ⟨v, he2, hnum, hr⟩ : Rp.rowd.R w S ((xs.drop (i * 15)).take 15) o := h3 i o hi
    obtain ⟨A', c', hv, _⟩ := id hr
    simp only [List.cons.injEq, and_true] at hv
    subst hv
    refine ⟨g, A', c', rfl, hb, fun j u hu => ?_, hnum, hr⟩
    have hj : j < 15 := by have := (List.getElem?_eq_some_iff.1 hu).1; simpa [RowD.cells] using this
    rw [← he2, List.getElem?_take_of_lt hj, List.getElem?_drop] at hu
    have hlt2 : i * 15 + j < l.length * 15 := by omega
    rw [← ht, List.getElem?_take_of_lt (by exact hlt2), Array.getElem?_toList] at hu
    simp [World.cell?, hg, hu]
set_option maxRecDepth 100000 in
set_option maxHeartbeats 40000000 in
theorem k_each (what : Int) (k : Nat) (cap : Array Value) (g : HowD) (d : Nat) (L : List RowD) (F : Nat → Prop) (w : World) (hD : DkAt w d L F) (hl : L.length ≤ 100) (eg : ∀ args w, (callFunc k args).run Tryz.prog w = .ok (.enter k args) w)
    (hg : ∀ (r : RowD) (z : Nat) (hv : Value) (T : Nat → Prop) (w' : World), r ∈ L → r.what = what → Kp No w w' → w.heap.size ≤ z → Blk w' z 118 (r.cells hv) → Rp.str.slice.R w' T [hv] r.hashes → (∀ k, T k → k ≠ z) → r.nums → Calls Tryz.prog k (#[.pointer (some ⟨z, 0, none⟩)] ++ cap) w' (AnsD z w' T (g r))) :
    Calls Tryz.prog 70 #[.pointer (some ⟨d, 0, none⟩), .int .i64 what, .func (.func k) #[] cap] w fun e w' => ∃ A c, e = .returned (.slice A (eachO what g L).1.length c) ∧ Rp.rep.slice.R w' (fun k => w.heap.size ≤ k) [.slice A (eachO what g L).1.length c] (eachO what g L).1 ∧ ∃ F', DkAt w' d (eachO what g L).2 F' ∧ Upd F w w' F' ∧ Kp (· = d) w w' := by
  obtain ⟨rv, S, hin, hft⟩ := hD
  obtain ⟨Av, cv, rfl⟩ := hin.row.shape
  have HIN := Lib.hid hin
  have HFT := Lib.hid hft
  have HG := Lib.hid hg
  have hln : (L.length : Int) ≤ 100 := by omega
  have k0 : w.cell? ⟨d, 0, none⟩ = some _ := Blk.cell hin.blk rfl
  obtain ⟨wm, hmk, hownm, hkm⟩ := own_make Rp.rowd w (XD S w.heap.size w (.slice none 0 0) (.slice none 0 0)) w.heap.size 112 118 el_rowd .i64 .i64 L.length (by omega) (by unfold maxLen; omega) (Nat.le_refl _)
  have HMK := Lib.hid hmk
  have HKM := Lib.hid hkm
  have HSVM : Hid (Own Rp.rowd wm (XD S w.heap.size wm (.slice none 0 0) (.slice (some ⟨w.heap.size, 0, none⟩) 0 L.length)) w.heap.size 118 (.slice (some ⟨w.heap.size, 0, none⟩) 0 L.length) []) := Lib.hid (hownm.mono (Nat.le_refl _) (fun k h => XD.step hkm.size (.inl rfl) (.inr ⟨w.heap.size, rfl, Nat.le_refl _⟩) h))
  have k1 : wm.cell? ⟨d, 0, none⟩ = some _ := Blk.cell (hin.blk.kept hkm (fun z => z)) rfl
  have HDW : Hid (d < w.heap.size) := Lib.hid (Blk.lt hin.blk)
  have HR : Hid (Rp.rowd.slice.R w (fun k => S k ∨ (Value.slice Av L.length cv).ownBlock = some k) [.slice Av L.length cv] L) := Lib.hid ((hin.row.mono (Nat.le_refl _) (fun k h => .inl h)).read (fun k h => .inr h))
  clear hin hft hg hkm hownm
  go_enter Tryz.func70, Tryz.ntmps70
  go_wp2_with fail
  clear k0
  go_loopw [7, 8, 26] (fun ov sv iv wr => ∃ i : Nat, i ≤ L.length ∧ iv = .int .i64 (i : Int) ∧ Hid (Own Rp.rep wr (XD No w.heap.size wr ov sv) w.heap.size 75 ov (eachO what g (L.take i)).1) ∧ Hid (Own Rp.rowd wr (XD S w.heap.size wr ov sv) w.heap.size 118 sv (eachO what g (L.take i)).2) ∧ Hid (Kp No w wr)) (fun _ _ iv _ => L.length - (intOf iv).toNat)
  case atStart => exact ⟨0, Nat.zero_le _, rfl, Lib.hid (Own.nil _ _ _ _ _), HSVM, HKM⟩
  case round =>
    clear HSVM HKM HMK hmk k1
    obtain ⟨i, hi, rfl, HOV, HSV, HK⟩ := hrel
    by_cases hlt : i < L.length
    case neg =>
      obtain rfl : i = L.length := by omega
      rw [List.take_length] at HOV HSV
      obtain ⟨os, hos⟩ : ∃ v, (eachO what g L).1 = v := ⟨_, rfl⟩
      obtain ⟨rs, hrs⟩ : ∃ v, (eachO what g L).2 = v := ⟨_, rfl⟩
      rw [hos] at HOV
      rw [hrs] at HSV
      obtain ⟨Ao, co, rfl⟩ := HOV.out.shape
      obtain ⟨As, cs, rfl⟩ := HSV.out.shape
      have HOS := Lib.hid hos
      have HRS := Lib.hid hrs
      have hbd := HIN.out.blk.kept HK.out (fun z => z)
      have k2 : wr.cell? ⟨d, 0, none⟩ = some _ := Blk.cell hbd rfl
      have f0 := Blk.fr hbd 0
      have hk7 : Kp (· = d) wr (wr.setCell ⟨d, 0, none⟩ (.slice As rs.length cs)) := (Kp.refl (· = d) wr).setCell (p := ⟨d, 0, none⟩) (fun _ => rfl) _
      have hxd : ∀ k, XD S w.heap.size wr (.slice Ao os.length co) (.slice As rs.length cs) k → k ≠ d := fun k hx e => by
        subst e
        rcases hx.1 with h | h
        · exact HIN.out.sd h
        · have := HDW.out; omega
      have HFIN : Hid (DkIn (wr.setCell ⟨d, 0, none⟩ (.slice As rs.length cs)) d (.slice As rs.length cs) (XD S w.heap.size wr (.slice Ao os.length co) (.slice As rs.length cs)) rs) := Lib.hid
        ⟨Blk.set hbd 0 _, (HSV.out.kept hk7 (fun k hx _ => hxd k hx) (fun k hv e => by have h1 := (HSV.out.lt k hv).1; have h2 := HDW.out; omega)).mono (Nat.zero_le _) (fun _ h => h), fun h => by have h1 := (HSV.out.lt d h).1; have h2 := HDW.out; omega, fun h => hxd d h rfl, fun k hx => hx.2.2.2, fun k hx => Nat.lt_of_lt_of_le hx.2.1 hk7.size⟩
      have HRD : Hid (Rp.rep.slice.R (wr.setCell ⟨d, 0, none⟩ (.slice As rs.length cs)) (fun k => w.heap.size ≤ k) [.slice Ao os.length co] os) := Lib.hid (Rp.rep.slice.more (Rp.rep.slice.kept HOV.out.readFrom hk7 (fun k h _ e => by
          subst e
          have h2 := HDW.out
          rcases h with h | h
          · rcases h.1 with h | h
            · exact h
            · omega
          · omega)) (fun k h => by
          rcases h with h | h
          · rcases h.1 with h | h
            · exact h.elim
            · exact h
          · exact h))
      have HUP : Hid (Upd F w (wr.setCell ⟨d, 0, none⟩ (.slice As rs.length cs)) (DkFoot d (.slice As rs.length cs) (XD S w.heap.size wr (.slice Ao os.length co) (.slice As rs.length cs)))) := Lib.hid
        ⟨HK.out.any.trans hk7 (fun k _ e => (HFT.out k).2 (.inl e)), fun k hk => by
          rcases hk with h | h | h
          · exact .inl ((HFT.out k).2 (.inl h))
          · exact .inr (HSV.out.lt k h).1
          · rcases h.1 with h | h
            · exact .inl ((HFT.out k).2 (.inr (.inr h)))
            · exact .inr h⟩
      have HKD7 := Lib.hid (HK.out.any.trans' hk7)
      clear hos hrs hbd hk7 hxd hi hlt
      go_wp2_with fail
      go_ret
      exact ⟨Ao, co, by rw [HOS.out]; rfl, by rw [HOS.out]; exact HRD.out, _, by rw [HRS.out]; exact ⟨_, _, HFIN.out, fun k => Iff.rfl⟩, HUP.out, HKD7.out⟩
    case pos =>
    have hlti : (i : Int) < (L.length : Int) := by omega
    obtain ⟨r, hr⟩ : ∃ r, L[i]? = some r := ⟨_, List.getElem?_eq_getElem hlt⟩
    obtain ⟨gr, H, ch, rfl, _, hcell, hnum, hrh⟩ := Own.at_rowd (HIN.out.row.keptNo HK.out) hr
    have HRM := Lib.hid (List.mem_of_getElem? hr)
    obtain ⟨os, hos⟩ : ∃ v, (eachO what g (L.take i)).1 = v := ⟨_, rfl⟩
    obtain ⟨rs, hrs⟩ : ∃ v, (eachO what g (L.take i)).2 = v := ⟨_, rfl⟩
    have HSTP : Hid (eachO what g (L.take (i + 1)) = eachS what g (os, rs) r) := Lib.hid (by rw [List.take_add_one, hr, Option.toList_some, eachO_snoc, ← hos, ← hrs])
    have HLN : Hid (os.length + rs.length ≤ 100) := Lib.hid (by have h1 := eachO_len what g (L.take i); rw [hos, hrs, List.length_take] at h1; omega)
    rw [hos] at HOV
    rw [hrs] at HSV
    obtain ⟨Ao, co, rfl⟩ := HOV.out.shape
    obtain ⟨As, cs, rfl⟩ := HSV.out.shape
    have z0 : wr.cell? ⟨gr, i * 15, none⟩ = some _ := hcell 0 _ rfl
    have z1 : wr.cell? ⟨gr, i * 15 + 1, none⟩ = some _ := hcell 1 _ rfl
    have z2 : wr.cell? ⟨gr, i * 15 + 2, none⟩ = some _ := hcell 2 _ rfl
    have z3 : wr.cell? ⟨gr, i * 15 + 3, none⟩ = some _ := hcell 3 _ rfl
    have z4 : wr.cell? ⟨gr, i * 15 + 4, none⟩ = some _ := hcell 4 _ rfl
    have z5 : wr.cell? ⟨gr, i * 15 + 5, none⟩ = some _ := hcell 5 _ rfl
    have z6 : wr.cell? ⟨gr, i * 15 + 6, none⟩ = some _ := hcell 6 _ rfl
    have z7 : wr.cell? ⟨gr, i * 15 + 7, none⟩ = some _ := hcell 7 _ rfl
    have z8 : wr.cell? ⟨gr, i * 15 + 8, none⟩ = some _ := hcell 8 _ rfl
    have z9 : wr.cell? ⟨gr, i * 15 + 9, none⟩ = some _ := hcell 9 _ rfl
    have z10 : wr.cell? ⟨gr, i * 15 + 10, none⟩ = some _ := hcell 10 _ rfl
    have z11 : wr.cell? ⟨gr, i * 15 + 11, none⟩ = some _ := hcell 11 _ rfl
    have z12 : wr.cell? ⟨gr, i * 15 + 12, none⟩ = some _ := hcell 12 _ rfl
    have z13 : wr.cell? ⟨gr, i * 15 + 13, none⟩ = some _ := hcell 13 _ rfl
    have z14 : wr.cell? ⟨gr, i * 15 + 14, none⟩ = some _ := hcell 14 _ rfl
    obtain ⟨z, hz⟩ : ∃ v, wr.heap.size = v := ⟨_, rfl⟩
    obtain ⟨w1, hw1⟩ : ∃ v, wr.alloc (.cells #[.int .i64 r.n, .int .i64 r.ask.kind, .int .i64 r.ask.client, .int .i64 r.ask.seq, .string r.ask.name, .string r.ask.data, .int .i64 r.ask.mode, .int .i64 r.ask.lag, .int .i64 r.what, .int .i64 r.index, .int .i64 r.term, .int .i64 r.an, .int .i64 r.ae, .int .i64 r.size, .slice H r.hashes.length ch] 118) = v := ⟨_, rfl⟩
    have hk1 : Kp No wr w1 := by rw [← hw1]; exact (Kp.refl _ _).alloc _
    have HZ : Hid (Blk w1 z 118 (r.cells (.slice H r.hashes.length ch))) := Lib.hid (by rw [← hw1, ← hz]; exact Blk.new wr _ _)
    have HS1 : Hid (w1.heap.size = z + 1) := Lib.hid (by rw [← hw1, ← hz]; simp)
    have HZZ : Hid (w.heap.size ≤ z) := Lib.hid (by rw [← hz]; exact HK.out.size)
    have HKZ := Lib.hid (HK.out.trans' hk1)
    have HQN := Lib.hid hnum
    have HRH := Lib.hid (Rp.str.slice.keptNo hrh hk1)
    have HOL : Hid (∀ k, ((Value.slice Ao os.length co).ownBlock = some k ∨ (Value.slice As rs.length cs).ownBlock = some k) → w.heap.size ≤ k ∧ k < z) := Lib.hid (fun k h => by
      rcases h with h | h
      · have := HOV.out.lt k h; omega
      · have := HSV.out.lt k h; omega)
    have HWR : Hid (wr.heap.size = z) := Lib.hid hz
    have HOV := Lib.hid (HOV.out.keptNo hk1)
    have HSV := Lib.hid (HSV.out.keptNo hk1)
    have HWS := Lib.hid hk1.size
    clear hr hcell hnum hrh hos hrs hk1 HK hi
    go_upto_region 8 with fail
    try rw [hw1]
    try rw [hz]
    clear hw1 hz z0 z1 z2 z3 z4 z5 z6 z7 z8 z9 z10 z11 z12 z13 z14
    have y8 : w1.cell? ⟨z, 8, none⟩ = some _ := Blk.cell HZ.out rfl
    by_cases hw : r.what = what
    case neg =>
      have hb : (r.what == what) = false := beq_eq_false_iff_ne.2 hw
      have HST : Hid (eachO what g (L.take (i + 1)) = (os, rs ++ [r])) := Lib.hid (by rw [HSTP.out]; unfold eachS; rw [if_neg hw])
      have HQ : Hid (Rp.str.slice.R w1 (XD S w.heap.size w1 (.slice Ao os.length co) (.slice As rs.length cs)) [.slice H r.hashes.length ch] r.hashes) := Lib.hid (Rp.str.slice.more HRH.out (fun k h => by
        have h1 := HIN.out.hi k h
        have h2 := HKZ.out.size
        exact ⟨.inl h, by omega, fun e => by have := HOL.out k (.inl e); omega, fun e => by have := HOL.out k (.inr e); omega⟩))
      have HOV := Lib.hid (HOV.out.mono (Nat.le_refl _) (fun k h => XD.step HWS.out (.inl rfl) (.inl rfl) h))
      have HSV := Lib.hid (HSV.out.mono (Nat.le_refl _) (fun k h => XD.step HWS.out (.inl rfl) (.inl rfl) h))
      clear hw HG
      go_upto_region 12 with fail
      clear y8
      obtain ⟨g1, hg1⟩ : ∃ v, (w1).heap.size = v := ⟨_, rfl⟩
      have hli := run_lit_rowd w1 r H (r).hashes.length ch
      have hsrc := rowd_lit w1 r (.slice H (r).hashes.length ch) (fun k => XD S w.heap.size w1 (.slice Ao os.length co) (.slice As rs.length cs) k ∨ k = g1) (.inr hg1) HQN.out (Rp.str.slice.more HQ.out (fun k h => .inl h))
      obtain ⟨w5, hw5⟩ : ∃ v, (w1).alloc (.cells ((r).cells (.slice H (r).hashes.length ch)).toArray 118) = v := ⟨_, rfl⟩
      have hk5 : Kp No w1 w5 := by rw [← hw5]; exact (Kp.refl _ _).alloc _
      have hs5 : w5.heap.size = g1 + 1 := by rw [← hw5, ← hg1]; simp
      rw [hw5, hg1] at hli hsrc
      have HLI := Lib.hid hli
      have HSRC := Lib.hid hsrc
      have HLD := Lib.hid (run_load_rowd HZ.out)
      have HG1 := Lib.hid hg1
      have HS5 := Lib.hid hs5
      have HK5 := Lib.hid (HKZ.out.trans' hk5)
      have HOV5 := Lib.hid (HOV.out.keptNo hk5)
      have HSV5 : Hid (Own Rp.rowd w5 (fun k => XD S w.heap.size w1 (.slice Ao os.length co) (.slice As rs.length cs) k ∨ k = g1) w.heap.size 118 (.slice As rs.length cs) rs) := Lib.hid ((HSV.out.keptNo hk5).mono (Nat.le_refl _) (fun k h => .inl h))
      have HNV : Hid (∀ k, (Value.slice As rs.length cs).ownBlock = some k → ¬ (XD S w.heap.size w1 (.slice Ao os.length co) (.slice As rs.length cs) k ∨ k = g1)) := Lib.hid (fun k hk e => by
        rcases e with e | e
        · exact e.2.2.2 hk
        · have h1 := (HSV.out.lt k hk).2; have h2 := HG1.out; omega)
      clear hli hsrc hw5 hk5 hs5 hg1
      unfold rowW at HLI HLD
      go_wp2_with (first | (refine wpl_load (by first | rfl | go_simp) 118 _ rfl _ _ rfl HLD.out ?_; go_simp) | (refine wpList_litW (by first | rfl | go_simp) 112 _ rfl _ _ (by go_simp) HLI.out ?_; go_simp) | (at_builtin; refine wpList_append_rp (E := Rp.rowd) rfl _ (.tmp 44) (.tmp 46) 112 rfl w.heap.size 118 152 el_rowd (fun k => XD S w.heap.size w1 (.slice Ao os.length co) (.slice As rs.length cs) k ∨ k = g1) (.slice As rs.length cs) rs rfl HSV5.out (some ⟨g1, 0, none⟩) 1 (fun k => XD S w.heap.size w1 (.slice Ao os.length co) (.slice As rs.length cs) k ∨ k = g1) [r] rfl HSRC.out Rp.rowd_one (by have := HLN.out; simp [maxLen]; omega) (by have := HLN.out; simp; omega) HK5.out.size (fun _ h => h) HNV.out ?_))
      intro sv6 w6 hown hgr hbl
      have hk6 : Kp (fun k => (Value.slice As rs.length cs).ownBlock = some k) w5 w6 := (Kp.refl _ _).grown hgr (fun g hg _ => hg)
      have hs6 := hk6.size
      have hsb : sv6.ownBlock = (Value.slice As rs.length cs).ownBlock ∨ ∃ g, sv6.ownBlock = some g ∧ (w1).heap.size ≤ g := by
        rcases hbl with h | h
        · exact .inl h
        · exact .inr ⟨_, h, by have h2 := HS5.out; have h3 := HG1.out; omega⟩
      have HK6 := Lib.hid (HK5.out.trans hk6 (fun k hk h => by have := (HSV.out.lt k h).1; omega))
      have HOV6 : Hid (Own Rp.rep w6 (XD No w.heap.size w6 (.slice Ao os.length co) sv6) w.heap.size 75 (.slice Ao os.length co) os) := Lib.hid ((HOV5.out.kept hk6 (fun k hx _ h => hx.2.2.2 h) (fun k h h2 => HOV.out.ne_block HSV.out (by decide) h h2)).mono (Nat.le_refl _) (fun k h => XD.step (by have h2 := HS5.out; have h3 := HG1.out; omega) (.inl rfl) hsb h))
      have HSV6 : Hid (Own Rp.rowd w6 (XD S w.heap.size w6 (.slice Ao os.length co) sv6) w.heap.size 118 sv6 (rs ++ [r])) := Lib.hid (hown.mono (Nat.le_refl _) (fun k h => by
        rcases h with h | h
        · exact XD.step (by have h2 := HS5.out; have h3 := HG1.out; omega) (.inl rfl) hsb h
        · have h2 := HS5.out
          have h3 := HG1.out
          have h4 := HKZ.out.size
          refine ⟨.inr (by omega), by omega, fun e => by have := (HOV.out.lt k e).2; omega, fun e => ?_⟩
          rcases hbl with h5 | h5
          · rw [h5] at e; have := (HSV.out.lt k e).2; omega
          · rw [h5] at e; injection e with e; omega))
      clear hown hgr hbl hk6 hs6 hsb HLI HLD HSRC
      go_wp2_with fail
      go_roundw
      case rel => exact ⟨i + 1, by omega, by go_num, by rw [HST.out]; exact HOV6, by rw [HST.out]; exact HSV6, HK6⟩
      case measure => simp [intOf]; omega
    case pos =>
    have hb : (r.what == what) = true := beq_iff_eq.2 hw
    have HC := Lib.hid (HG.out r z (.slice H r.hashes.length ch) S w1 HRM.out hw HKZ.out HZZ.out HZ.out HRH.out (fun k h e => by have h1 := HIN.out.hi k h; have h2 := HZZ.out; omega) HQN.out)
    clear HG
    go_wp2_with fail
    refine HC.out.mono ?_
    rintro e w2 ⟨nv, lv, hv2, rfl, hbz, hrh2, hrn, hrl, hn1, hn2, hk2⟩
    obtain ⟨N, cn, hNv, _⟩ := id hrn
    obtain ⟨M, cm, hMv, _⟩ := id hrl
    obtain ⟨H2, ch2, hHv, _⟩ := id hrh2
    simp only [List.cons.injEq, and_true] at hNv hMv hHv
    subst hNv hMv hHv
    obtain ⟨⟨qr, qb, qn⟩, hq⟩ : ∃ q, g r = q := ⟨_, rfl⟩
    rw [hq] at hbz hrh2 hrn hrl hn1 hn2 ⊢
    simp only at hbz hrh2 hrn hrl hn1 hn2 ⊢
    have HGQ := Lib.hid hq
    have HW := Lib.hid hw
    clear HC hw hb hq y8 HZ
    obtain ⟨x, hx⟩ : ∃ v, w2.heap.size = v := ⟨_, rfl⟩
    obtain ⟨w3, hw3⟩ : ∃ v, w2.alloc (.cells #[.int .i64 qr.ask, .int .i64 qr.err, .int .i64 qr.an, .int .i64 qr.ae, .slice N qr.names.length cn, .string qr.data, .slice M qr.lost.length cm] 75) = v := ⟨_, rfl⟩
    have hk3 : Kp No w2 w3 := by rw [← hw3]; exact (Kp.refl _ _).alloc _
    have hs3 : w3.heap.size = x + 1 := by rw [← hw3, ← hx]; simp
    have HX : Hid (Blk w3 x 75 (qr.cells (.slice N qr.names.length cn) (.slice M qr.lost.length cm))) := Lib.hid (by rw [← hw3, ← hx]; exact Blk.new w2 _ _)
    have hk13 : Kp (· = z) w1 w3 := hk2.transNo hk3
    have HZ : Hid (Blk w3 z 118 (qn.cells (.slice H2 qn.hashes.length ch2))) := Lib.hid (hbz.kept hk3 (fun h => h))
    have HKZ2 : Hid (Kp No w w3) := Lib.hid (HKZ.out.trans hk13 (fun k hk e => by have := HZZ.out; omega))
    have HLT1 : Hid (w.heap.size ≤ w1.heap.size ∧ w1.heap.size ≤ w3.heap.size ∧ z < w1.heap.size) := Lib.hid ⟨HKZ.out.size, hk13.size, by have := HS1.out; omega⟩
    have hnz : ∀ T k, XD T w.heap.size wr (.slice Ao os.length co) (.slice As rs.length cs) k → ¬ k = z := fun T k hx e => by have := hx.2.1; have := HWR.out; omega
    have HOV := Lib.hid ((HOV.out.kept hk13 (fun k hx _ => hnz _ k hx) (fun k h e => by have := HOL.out k (.inl h); omega)).mono (Nat.le_refl _) (fun k h => XD.step (by have := HWS.out; have := hk13.size; omega) (.inl rfl) (.inl rfl) h) (S' := XD No w.heap.size w3 (.slice Ao os.length co) (.slice As rs.length cs)))
    have HSV := Lib.hid ((HSV.out.kept hk13 (fun k hx _ => hnz _ k hx) (fun k h e => by have := HOL.out k (.inr h); omega)).mono (Nat.le_refl _) (fun k h => XD.step (by have := HWS.out; have := hk13.size; omega) (.inl rfl) (.inl rfl) h) (S' := XD S w.heap.size w3 (.slice Ao os.length co) (.slice As rs.length cs)))
    have hnew : ∀ T k, w1.heap.size ≤ k → k < w2.heap.size → XD T w.heap.size w3 (.slice Ao os.length co) (.slice As rs.length cs) k := fun T k h1 h2 => by
      have h3 := HLT1.out
      exact ⟨.inr (by omega), by omega, fun e => by have := HOL.out k (.inl e); omega, fun e => by have := HOL.out k (.inr e); omega⟩
    have HQ : Hid (Rp.str.slice.R w3 (XD S w.heap.size w3 (.slice Ao os.length co) (.slice As rs.length cs)) [.slice H2 qn.hashes.length ch2] qn.hashes) := Lib.hid (Rp.str.slice.more (Rp.str.slice.keptNo (Rp.str.slice.bnd hrh2) hk3) (fun k h => by
      rcases h.1 with h1 | h1
      · have h2 := HIN.out.hi k h1
        have h3 := HLT1.out
        exact ⟨.inl h1, by omega, fun e => by have := HOL.out k (.inl e); omega, fun e => by have := HOL.out k (.inr e); omega⟩
      · exact hnew _ k h1 h.2))
    have HPA : Hid (Rp.str.slice.R w3 (XD No w.heap.size w3 (.slice Ao os.length co) (.slice As rs.length cs)) [.slice N qr.names.length cn] qr.names) := Lib.hid (Rp.str.slice.more (Rp.str.slice.keptNo (Rp.str.slice.bnd hrn) hk3) (fun k h => hnew _ k h.1 h.2))
    have HPB : Hid (Rp.opl.slice.R w3 (XD No w.heap.size w3 (.slice Ao os.length co) (.slice As rs.length cs)) [.slice M qr.lost.length cm] qr.lost) := Lib.hid (Rp.opl.slice.more (Rp.opl.slice.keptNo (Rp.opl.slice.bnd hrl) hk3) (fun k h => hnew _ k h.1 h.2))
    have HPN := Lib.hid hn1
    have HQN := Lib.hid hn2
    have HKZ := HKZ2
    have HIN := HIN
    clear hbz hrh2 hrn hrl hn1 hn2 hk2 hk3 hs3 hk13 hnz hnew HRH HS1 HWR HWS
    unfold repW
    go_upto_region 10 with fail
    try rw [hw3]
    try rw [hx]
    clear hw3 hx
    cases qb
    case false =>
      have HST : Hid (eachO what g (L.take (i + 1)) = (os, rs ++ [qn])) := Lib.hid (by rw [HSTP.out]; unfold eachS; rw [if_pos HW.out, HGQ.out]; rfl)
      go_upto_region 12 with fail
      obtain ⟨g1, hg1⟩ : ∃ v, (w3).heap.size = v := ⟨_, rfl⟩
      have hli := run_lit_rowd w3 qn H2 (qn).hashes.length ch2
      have hsrc := rowd_lit w3 qn (.slice H2 (qn).hashes.length ch2) (fun k => XD S w.heap.size w3 (.slice Ao os.length co) (.slice As rs.length cs) k ∨ k = g1) (.inr hg1) HQN.out (Rp.str.slice.more HQ.out (fun k h => .inl h))
      obtain ⟨w5, hw5⟩ : ∃ v, (w3).alloc (.cells ((qn).cells (.slice H2 (qn).hashes.length ch2)).toArray 118) = v := ⟨_, rfl⟩
      have hk5 : Kp No w3 w5 := by rw [← hw5]; exact (Kp.refl _ _).alloc _
      have hs5 : w5.heap.size = g1 + 1 := by rw [← hw5, ← hg1]; simp
      rw [hw5, hg1] at hli hsrc
      have HLI := Lib.hid hli
      have HSRC := Lib.hid hsrc
      have HLD := Lib.hid (run_load_rowd HZ.out)
      have HG1 := Lib.hid hg1
      have HS5 := Lib.hid hs5
      have HK5 := Lib.hid (HKZ.out.trans' hk5)
      have HOV5 := Lib.hid (HOV.out.keptNo hk5)
      have HSV5 : Hid (Own Rp.rowd w5 (fun k => XD S w.heap.size w3 (.slice Ao os.length co) (.slice As rs.length cs) k ∨ k = g1) w.heap.size 118 (.slice As rs.length cs) rs) := Lib.hid ((HSV.out.keptNo hk5).mono (Nat.le_refl _) (fun k h => .inl h))
      have HNV : Hid (∀ k, (Value.slice As rs.length cs).ownBlock = some k → ¬ (XD S w.heap.size w3 (.slice Ao os.length co) (.slice As rs.length cs) k ∨ k = g1)) := Lib.hid (fun k hk e => by
        rcases e with e | e
        · exact e.2.2.2 hk
        · have h1 := (HSV.out.lt k hk).2; have h2 := HG1.out; omega)
      clear hli hsrc hw5 hk5 hs5 hg1
      unfold rowW at HLI HLD
      go_wp2_with (first | (refine wpl_load (by first | rfl | go_simp) 118 _ rfl _ _ rfl HLD.out ?_; go_simp) | (refine wpList_litW (by first | rfl | go_simp) 112 _ rfl _ _ (by go_simp) HLI.out ?_; go_simp) | (at_builtin; refine wpList_append_rp (E := Rp.rowd) rfl _ (.tmp 44) (.tmp 46) 112 rfl w.heap.size 118 152 el_rowd (fun k => XD S w.heap.size w3 (.slice Ao os.length co) (.slice As rs.length cs) k ∨ k = g1) (.slice As rs.length cs) rs rfl HSV5.out (some ⟨g1, 0, none⟩) 1 (fun k => XD S w.heap.size w3 (.slice Ao os.length co) (.slice As rs.length cs) k ∨ k = g1) [qn] rfl HSRC.out Rp.rowd_one (by have := HLN.out; simp [maxLen]; omega) (by have := HLN.out; simp; omega) HK5.out.size (fun _ h => h) HNV.out ?_))
      intro sv6 w6 hown hgr hbl
      have hk6 : Kp (fun k => (Value.slice As rs.length cs).ownBlock = some k) w5 w6 := (Kp.refl _ _).grown hgr (fun g hg _ => hg)
      have hs6 := hk6.size
      have hsb : sv6.ownBlock = (Value.slice As rs.length cs).ownBlock ∨ ∃ g, sv6.ownBlock = some g ∧ (w3).heap.size ≤ g := by
        rcases hbl with h | h
        · exact .inl h
        · exact .inr ⟨_, h, by have h2 := HS5.out; have h3 := HG1.out; omega⟩
      have HK6 := Lib.hid (HK5.out.trans hk6 (fun k hk h => by have := (HSV.out.lt k h).1; omega))
      have HOV6 : Hid (Own Rp.rep w6 (XD No w.heap.size w6 (.slice Ao os.length co) sv6) w.heap.size 75 (.slice Ao os.length co) os) := Lib.hid ((HOV5.out.kept hk6 (fun k hx _ h => hx.2.2.2 h) (fun k h h2 => HOV.out.ne_block HSV.out (by decide) h h2)).mono (Nat.le_refl _) (fun k h => XD.step (by have h2 := HS5.out; have h3 := HG1.out; omega) (.inl rfl) hsb h))
      have HSV6 : Hid (Own Rp.rowd w6 (XD S w.heap.size w6 (.slice Ao os.length co) sv6) w.heap.size 118 sv6 (rs ++ [qn])) := Lib.hid (hown.mono (Nat.le_refl _) (fun k h => by
        rcases h with h | h
        · exact XD.step (by have h2 := HS5.out; have h3 := HG1.out; omega) (.inl rfl) hsb h
        · have h2 := HS5.out
          have h3 := HG1.out
          have h4 := HKZ.out.size
          refine ⟨.inr (by omega), by omega, fun e => by have := (HOV.out.lt k e).2; omega, fun e => ?_⟩
          rcases hbl with h5 | h5
          · rw [h5] at e; have := (HSV.out.lt k e).2; omega
          · rw [h5] at e; injection e with e; omega))
      clear hown hgr hbl hk6 hs6 hsb HLI HLD HSRC
      go_wp2_with fail
      go_roundw
      case rel => exact ⟨i + 1, by omega, by go_num, by rw [HST.out]; exact HOV6, by rw [HST.out]; exact HSV6, HK6⟩
      case measure => simp [intOf]; omega
    case true =>
      have HST : Hid (eachO what g (L.take (i + 1)) = (os ++ [qr], rs)) := Lib.hid (by rw [HSTP.out]; unfold eachS; rw [if_pos HW.out, HGQ.out]; rfl)
      go_upto_region 11 with fail
      obtain ⟨g1, hg1⟩ : ∃ v, (w3).heap.size = v := ⟨_, rfl⟩
      have hli := run_lit_rep w3 qr N M (qr).names.length cn (qr).lost.length cm
      have hsrc := rep_lit w3 qr (.slice N (qr).names.length cn) (.slice M (qr).lost.length cm) (fun k => XD No w.heap.size w3 (.slice Ao os.length co) (.slice As rs.length cs) k ∨ k = g1) (.inr hg1) HPN.out (Rp.str.slice.more HPA.out (fun k h => .inl h)) (Rp.opl.slice.more HPB.out (fun k h => .inl h))
      obtain ⟨w5, hw5⟩ : ∃ v, (w3).alloc (.cells ((qr).cells (.slice N (qr).names.length cn) (.slice M (qr).lost.length cm)).toArray 75) = v := ⟨_, rfl⟩
      have hk5 : Kp No w3 w5 := by rw [← hw5]; exact (Kp.refl _ _).alloc _
      have hs5 : w5.heap.size = g1 + 1 := by rw [← hw5, ← hg1]; simp
      rw [hw5, hg1] at hli hsrc
      have HLI := Lib.hid hli
      have HSRC := Lib.hid hsrc
      have HLD := Lib.hid (run_load_rep HX.out)
      have HG1 := Lib.hid hg1
      have HS5 := Lib.hid hs5
      have HK5 := Lib.hid (HKZ.out.trans' hk5)
      have HSV5 := Lib.hid (HSV.out.keptNo hk5)
      have HOV5 : Hid (Own Rp.rep w5 (fun k => XD No w.heap.size w3 (.slice Ao os.length co) (.slice As rs.length cs) k ∨ k = g1) w.heap.size 75 (.slice Ao os.length co) os) := Lib.hid ((HOV.out.keptNo hk5).mono (Nat.le_refl _) (fun k h => .inl h))
      have HNV : Hid (∀ k, (Value.slice Ao os.length co).ownBlock = some k → ¬ (XD No w.heap.size w3 (.slice Ao os.length co) (.slice As rs.length cs) k ∨ k = g1)) := Lib.hid (fun k hk e => by
        rcases e with e | e
        · exact e.2.2.1 hk
        · have h1 := (HOV.out.lt k hk).2; have h2 := HG1.out; omega)
      clear hli hsrc hw5 hk5 hs5 hg1
      unfold repW at HLI HLD
      go_wp2_with (first | (refine wpl_load (by first | rfl | go_simp) 75 _ rfl _ _ rfl HLD.out ?_; go_simp) | (refine wpList_litW (by first | rfl | go_simp) 60 _ rfl _ _ (by go_simp) HLI.out ?_; go_simp) | (at_builtin; refine wpList_append_rp (E := Rp.rep) rfl _ (.tmp 40) (.tmp 42) 60 rfl w.heap.size 75 96 el_rep (fun k => XD No w.heap.size w3 (.slice Ao os.length co) (.slice As rs.length cs) k ∨ k = g1) (.slice Ao os.length co) os rfl HOV5.out (some ⟨g1, 0, none⟩) 1 (fun k => XD No w.heap.size w3 (.slice Ao os.length co) (.slice As rs.length cs) k ∨ k = g1) [qr] rfl HSRC.out Rp.rep_one (by have := HLN.out; simp [maxLen]; omega) (by have := HLN.out; simp; omega) HK5.out.size (fun _ h => h) HNV.out ?_))
      intro ov6 w6 hown hgr hbl
      have hk6 : Kp (fun k => (Value.slice Ao os.length co).ownBlock = some k) w5 w6 := (Kp.refl _ _).grown hgr (fun g hg _ => hg)
      have hs6 := hk6.size
      have hsb : ov6.ownBlock = (Value.slice Ao os.length co).ownBlock ∨ ∃ g, ov6.ownBlock = some g ∧ (w3).heap.size ≤ g := by
        rcases hbl with h | h
        · exact .inl h
        · exact .inr ⟨_, h, by have h2 := HS5.out; have h3 := HG1.out; omega⟩
      have HK6 := Lib.hid (HK5.out.trans hk6 (fun k hk h => by have := (HOV.out.lt k h).1; omega))
      have HSV6 : Hid (Own Rp.rowd w6 (XD S w.heap.size w6 ov6 (.slice As rs.length cs)) w.heap.size 118 (.slice As rs.length cs) rs) := Lib.hid ((HSV5.out.kept hk6 (fun k hx _ h => hx.2.2.1 h) (fun k h h2 => HSV.out.ne_block HOV.out (by decide) h h2)).mono (Nat.le_refl _) (fun k h => XD.step (by have h2 := HS5.out; have h3 := HG1.out; omega) hsb (.inl rfl) h))
      have HOV6 : Hid (Own Rp.rep w6 (XD No w.heap.size w6 ov6 (.slice As rs.length cs)) w.heap.size 75 ov6 (os ++ [qr])) := Lib.hid (hown.mono (Nat.le_refl _) (fun k h => by
        rcases h with h | h
        · exact XD.step (by have h2 := HS5.out; have h3 := HG1.out; omega) hsb (.inl rfl) h
        · have h2 := HS5.out
          have h3 := HG1.out
          have h4 := HKZ.out.size
          refine ⟨.inr (by omega), by omega, fun e => ?_, fun e => by have := (HSV.out.lt k e).2; omega⟩
          rcases hbl with h5 | h5
          · rw [h5] at e; have := (HOV.out.lt k e).2; omega
          · rw [h5] at e; injection e with e; omega))
      clear hown hgr hbl hk6 hs6 hsb HLI HLD HSRC
      go_wp2_with fail
      go_roundw
      case rel => exact ⟨i + 1, by omega, by go_num, by rw [HST.out]; exact HOV6, by rw [HST.out]; exact HSV6, HK6⟩
      case measure => simp [intOf]; omega
end Go.Proofs.YtamfgmlhopjppaaGreat
