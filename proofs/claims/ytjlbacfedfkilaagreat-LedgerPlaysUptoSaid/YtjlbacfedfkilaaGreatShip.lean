/-
  (*Ledger).ship.
-/
import Derived.Test.YtjlbacfedfkilaaGreatGG
import Derived.Deep.CutBlock
namespace Go.Proofs.YtjlbacfedfkilaaGreat
open Go.RowKit Go.ChangeShapes Go.WideShapes Go.ChangeAt
theorem a_part (n : Nat) (l : Nat) (L : LV) (F : Nat → Prop) (w : World) (h : LAt w l L F) (hsz : ∀ o ∈ L.ops,o.kind = 1 → Small o.size) (hl : L.ops.length ≤ 1000) (hlost : L.lost.length ≤ 900000) (hbare : ∀ o ∈ L.lost,o.hashes = []) (hset : 0 ≤ L.settled ∧ L.settled ≤ 1000) :
 Calls Tryz.prog 97 #[.pointer (some ⟨l,0,none⟩),.int .i64 (n : Int)] w fun x w' => x = .returned (.tuple #[]) ∧ ∃ F',LAt w' l (partL n L) F' ∧ Upd F w w' F' := by
 obtain ⟨b1,b2,ov,lv,S,h1,h2⟩ := h
 refine (l_part n l b1 b2 ov lv S L w h1 hsz hl hlost hbare hset).mono ?_
 rintro e w' ⟨he,b1',b2',ov',lv',S',h3,h4,h5⟩
 exact ⟨he,_,⟨b1',b2',ov',lv',S',h3,fun k => Iff.rfl⟩,h4.mono (fun k _ hk => (h2 k).2 hk),fun k hk => by
  rcases h5 k hk with h | h
  · exact .inl ((h2 k).2 h)
  · exact .inr h⟩
def Free (F : Nat → Prop) (w : World) : Nat → Prop := fun k => k < w.heap.size ∧ ¬ F k
theorem Own.bnd {α : Type} {E : Rp α} {w : World} {S : Nat → Prop} {base : Nat} {e : TypeId} {v : Value} {l : List α} (h : Own E w S base e v l) : Own E w (fun k => S k ∧ k < w.heap.size) base e v l := by
 obtain ⟨xs,h1,h2,h3⟩ := h
 exact ⟨xs,h1,h2,fun i a ha => E.bnd (h3 i a ha)⟩
theorem hadL_le (L : LV) : ∀ l : List OpL,hadL L l ≤ l.length
 | [] => Nat.le_refl _
 | o :: t => by
   unfold hadL
   split
   · have := hadL_le L t;simp;omega
   · simp
theorem hadL_at (L : LV) : ∀ (l : List OpL) (i : Nat),i < hadL L l → ∃ o,l[i]? = some o ∧ hasL o.n o.epoch L = true
 | [],i,h => by simp [hadL] at h
 | o :: t,i,h => by
   unfold hadL at h
   split at h
   · rename_i ho
     cases i with
     | zero => exact ⟨o,rfl,ho⟩
     | succ i => exact hadL_at L t i (by omega)
   · omega
theorem hadL_step (L : LV) {l : List OpL} {k : Nat} {o : OpL} (h : l[k]? = some o) : hadL L (l.drop k) = if hasL o.n o.epoch L = true then hadL L (l.drop (k + 1)) + 1 else 0 := by
 obtain ⟨hlt,rfl⟩ := List.getElem?_eq_some_iff.1 h
 rw [List.drop_eq_getElem_cons hlt,hadL]
theorem hasL_le {n e : Int} {L : LV} (h : hasL n e L = true) (hn : 1 ≤ n) : n ≤ L.ops.length := by
 unfold hasL at h
 have hz : (n == 0) = false := beq_eq_false_iff_ne.2 (by omega)
 rw [hz,Bool.false_or,Bool.and_eq_true,decide_eq_true_iff] at h
 exact h.1
theorem ship_place {an ae : Int} {ops : List OpL} {L : LV} (hr : rowB an ae ops = true) (h : hasL an ae L = true) : 0 ≤ an ∧ an + hadL L ops ≤ L.ops.length ∧ (∀ (i : Nat) o,ops[i]? = some o → okP o ∧ o.n = an + 1 + i) ∧
 (∀ o,ops[hadL L ops]? = some o → o.kind ≠ 3 → 1 ≤ an + hadL L ops) := by
 unfold rowB at hr
 rw [Bool.and_eq_true,decide_eq_true_iff] at hr
 obtain ⟨⟨s1,s2,s3,s4,s5⟩,hr⟩ := hr
 have hat := rowGo_at hr
 refine ⟨s1,?_,hat,fun o ho hk => ?_⟩
 · rcases Nat.eq_zero_or_pos (hadL L ops) with h0 | h0
   · rw [h0]
     by_cases ha : an = 0
     · subst ha;simp
     · have := hasL_le h (by omega);simpa using this
   · obtain ⟨o,ho,hh⟩ := hadL_at L ops (hadL L ops - 1) (by omega)
     have h1 := (hat _ o ho).2
     have := hasL_le hh (by omega)
     omega
 · rcases Nat.eq_zero_or_pos (hadL L ops) with h0 | h0
   · rw [h0] at ho ⊢
     by_cases ha : an = 0
     · exfalso
       have hae : ae = 0 := s5.1 ha
       match ops,hr,ho with
       | o1 :: t,hr,ho =>
         simp only [List.getElem?_cons_zero,Option.some.injEq] at ho
         subst ho
         unfold rowGo at hr
         rw [Bool.and_eq_true,decide_eq_true_iff] at hr
         obtain ⟨⟨⟨h1,_⟩,_,h2⟩,_⟩ := hr
         rcases h2 with h2 | h2
         · exact hk h2.1
         · have := h1.2.2.1;omega
     · simp;omega
   · omega
set_option maxRecDepth 100000 in
set_option maxHeartbeats 40000000 in
theorem a_ship (c : CmdL) (hv : Value) (Ao' : Option Addr) (cb : Nat) (SB : Nat → Prop) (B : Nat) (l : Nat) (L : LV) (F : Nat → Prop) (w : World) (h : LAt w l L F) (hok : OkL B L) (hB : B ≤ 800000) (hh : Rp.opl.slice.R w SB [.slice Ao' c.ops.length cb] c.ops) (hsb : ∀ k,SB k → k < w.heap.size → ¬ F k)
 (hr : reignP c.epoch c.site) (hs : shipP c) (hrow : rowB c.after c.since c.ops = true) :
 Calls Tryz.prog 35 #[.pointer (some ⟨l,0,none⟩),cmdV c hv (.slice Ao' c.ops.length cb)] w fun x w' => x = .returned (doneV (shipL c L).1) ∧ ∃ F',LAt w' l (shipL c L).2 F' ∧ Upd F w w' F' := by
 obtain ⟨P,hP⟩ : ∃ P,shipL c L = P := ⟨_,rfl⟩
 rw [hP]
 have HP := Lib.hid hP
 have HOK := Lib.hid hok
 have HBB := Lib.hid hB
 have HRP := Lib.hid hr
 have HROW := Lib.hid hrow
 have hol8 : c.ops.length ≤ 8 := hs.1
 obtain ⟨on,hon⟩ : ∃ on,c.ops.length = on := ⟨_,rfl⟩
 have hh2 : Rp.opl.slice.R w (Free F w) [.slice Ao' c.ops.length cb] c.ops := Rp.opl.slice.more (Rp.opl.slice.bnd hh) (fun k hk => ⟨hk.2,hsb k hk.1 hk.2⟩)
 have HH : Hid (Rp.opl.slice.R w (Free F w) [.slice Ao' on cb] c.ops) := Lib.hid (hon ▸ hh2)
 have HFLT := Lib.hid h.lt
 rw [hon] at hol8 ⊢
 have HON := Lib.hid hon
 clear hP hok hB hh hsb hr hs hrow hon hh2
 obtain ⟨ov,hov⟩ : ∃ ov,Value.slice Ao' on cb = ov := ⟨_,rfl⟩
 clear hov ov
 obtain ⟨x,hx⟩ : ∃ x,w.heap.size = x := ⟨_,rfl⟩
 obtain ⟨h1,h2,h3,h4,h5⟩ := begin_ h c hv (.slice Ao' on cb)
 have hfx : ¬ F x ∧ ¬ F (x + 1) := ⟨fun e => by have := h.lt _ e;omega,fun e => by have := h.lt _ e;omega⟩
 have HFX := Lib.hid hfx
 have hxl : l ≠ x ∧ l ≠ x + 1 := ⟨fun e => hfx.1 (e ▸ h.self),fun e => hfx.2 (e ▸ h.self)⟩
 have HXL := Lib.hid hxl
 obtain ⟨hxl1,hxl2⟩ := hxl
 obtain ⟨wa,hwa⟩ : ∃ wa,(w.alloc (.cells (cmdC c hv (.slice Ao' on cb)).toArray 39)).alloc (.cells #[.int .i64 0,.int .i64 0,.int .i64 0] 44) = wa := ⟨_,rfl⟩
 rw [hwa] at h1 h2 h3 h4 h5
 rw [hx] at h3 h4 h5
 unfold cmdC at h3 hwa
 obtain ⟨b1,b2,Ao,co,ll,hblk⟩ := h1.blk
 have HA := Lib.hid h1
 have HK := Lib.hid h2
 have HC := Lib.hid h3
 have HD := Lib.hid h4
 have HSA := Lib.hid h5
 have HB := Lib.hid hblk
 clear h1 h2 h4 h5 h hfx hblk
 unfold cmdV
 have HX := Lib.hid hx
 obtain ⟨ck,ep,st,op,an,ae,ops,tg⟩ := c
 simp only at *
 obtain ⟨fe,hfe⟩ : ∃ fe,L.fence = fe := ⟨_,rfl⟩
 obtain ⟨he,hhe⟩ : ∃ he,L.fold.hE = he := ⟨_,rfl⟩
 obtain ⟨hs,hhs⟩ : ∃ hs,L.fold.hS = hs := ⟨_,rfl⟩
 have HFE := Lib.hid hfe
 have HHE := Lib.hid hhe
 have HHS := Lib.hid hhs
 have k3 : wa.cell? ⟨l,3,none⟩ = some (.int .i64 he) := hhe ▸ Blk.cell HB.out rfl
 have k4 : wa.cell? ⟨l,4,none⟩ = some (.int .i64 hs) := hhs ▸ Blk.cell HB.out rfl
 have k7 : wa.cell? ⟨l,7,none⟩ = some (.int .i64 fe) := hfe ▸ Blk.cell HB.out rfl
 have z1 : wa.cell? ⟨x,1,none⟩ = some (.int .i64 ep) := Blk.cell h3 rfl
 have z2 : wa.cell? ⟨x,2,none⟩ = some (.int .i64 st) := Blk.cell h3 rfl
 have hp := HP.out
 unfold shipL at hp
 rw [hfe,hhe,hhs] at hp
 simp only at hp
 have HPP := Lib.hid hp
 clear h3 hfe hhe hhs hp HP
 obtain ⟨G,hG⟩ : ∃ G,decide (ep < fe ∨ (ep = he ∧ st ≠ hs)) = G := ⟨_,rfl⟩
 have HG := Lib.hid hG
 clear hG
 go_enter Tryz.func35,Tryz.ntmps35
 go_upto_region 1 with fail
 clear hwa hx
 go_cut [39] (fun b wx => b = .bool G ∧ Hid (Kp No wa wx))
 case first =>
  by_cases c1 : ep < fe
  · have hGe : G = true := by rw [← HG.out];exact decide_eq_true (.inl c1)
    subst hGe
    go_quiet (fail)
    go_wp2_with fail
    go_meet
    exact ⟨rfl,Lib.hid ((Kp.refl _ _).drewN _)⟩
  have c1b : decide (ep < fe) = false := decide_eq_false c1
  by_cases c2 : ep = he
  · by_cases c3 : st = hs
    · have hGe : G = false := by rw [← HG.out];exact decide_eq_false (fun h => by rcases h with h | h;exact c1 h;exact h.2 c3)
      subst hGe
      clear HG
      subst c2 c3
      go_quiet (fail)
      go_wp2_with fail
      go_meet
      exact ⟨rfl,Lib.hid ((Kp.refl _ _).drewN _)⟩
    · have hGe : G = true := by rw [← HG.out];exact decide_eq_true (.inr ⟨c2,c3⟩)
      subst hGe
      clear HG
      have c3b : (st == hs) = false := beq_eq_false_iff_ne.2 c3
      have c3n : (st != hs) = true := by simp [c3]
      subst c2
      go_quiet (fail)
      go_wp2_with fail
      go_meet
      exact ⟨rfl,Lib.hid ((Kp.refl _ _).drewN _)⟩
  · have hGe : G = false := by rw [← HG.out];exact decide_eq_false (fun h => by rcases h with h | h;exact c1 h;exact c2 h.1)
    subst hGe
    clear HG
    have c2b : (ep == he) = false := beq_eq_false_iff_ne.2 c2
    go_quiet (fail)
    go_wp2_with fail
    go_meet
    exact ⟨rfl,Lib.hid ((Kp.refl _ _).drewN _)⟩
 case rest =>
 obtain ⟨rfl,HKC⟩ := hcut
 have hac := HA.out.keptNo HKC.out
 have hcc := HC.out.kept HKC.out (fun x => x)
 have hdc := HD.out.kept HKC.out (fun x => x)
 have hbc := HB.out.kept HKC.out (fun x => x)
 have hkc := HK.out.trans' HKC.out
 have hgew := HKC.out.size
 have HAC := Lib.hid hac
 have HCC := Lib.hid hcc
 have HDC := Lib.hid hdc
 have HBC := Lib.hid hbc
 have HKW := Lib.hid hkc
 have hxs : x + 2 ≤ wc.heap.size := by have := HSA.out;omega
 have HXS := Lib.hid hxs
 clear k3 k4 k7 z1 z2 hac hcc hdc hbc hkc hgew hxs HA HC HD HB HK HKC HSA
 cases G
 case true =>
  have hPe : P = (failD 120,L) := by have := HPP.out;rw [if_pos (of_decide_eq_true HG.out)] at this;exact this.symm
  subst hPe
  clear HPP
  go_wp2_with fail
  refine (l_failed 120 _).mono ?_
  rintro e w9 ⟨rfl,hk9⟩
  have hk9 := ((Kp.refl No wc)).trans' hk9
  have h9k := (HKW.out).trans' hk9
  have h9a := (HAC.out).keptNo hk9
  have h9d := (HDC.out).kept hk9 (fun x => x)
  have H9K := Lib.hid h9k
  have H9A := Lib.hid h9a
  have H9D := Lib.hid h9d
  have g0 := Blk.fr h9d 0
  have g1 := Blk.fr h9d 1
  have g2 := Blk.fr h9d 2
  have u0 : w9.cell? ⟨x + 1,0,none⟩ = some _ := Blk.cell h9d rfl
  have u1 : w9.cell? ⟨x + 1,1,none⟩ = some _ := Blk.cell h9d rfl
  have u2 : w9.cell? ⟨x + 1,2,none⟩ = some _ := Blk.cell h9d rfl
  clear hk9 h9k h9a h9d
  go_wp2_with fail
  clear g0 g1 g2 u0 u1 u2
  obtain ⟨hkf,hbf⟩ := done_stored H9D.out (.int .i64 120) (.int .i64 0) (.int .i64 0)
  have hfd := HFX.out.2
  have hwx : w.heap.size = x := HX.out
  have hAf := (H9A.out).kept hkf (fun k hk e => hfd (e ▸ hk))
  have hKf := (H9K.out).trans hkf (fun i hi e => absurd hi (by omega))
  exact bodyPost_ret (results_cell_row rfl _ _ (x + 1) _ _ _ _ rfl hbf Tryz.underlying44 rfl (by kernel_rfl)) rfl ⟨by rfl,F,hAf,hKf.any,fun k hk => .inl hk⟩
 case false =>
  have hp := HPP.out
  rw [if_neg (of_decide_eq_false HG.out)] at hp
  obtain ⟨L1,hL1⟩ : ∃ L1 : LV,{ L with fence := ep } = L1 := ⟨_,rfl⟩
  rw [hL1] at hp
  have HP := Lib.hid hp
  have HL1 := Lib.hid hL1
  have z1 : wc.cell? ⟨x,1,none⟩ = some (.int .i64 ep) := Blk.cell HCC.out rfl
  have z4 : wc.cell? ⟨x,12,none⟩ = some (.int .i64 an) := Blk.cell HCC.out rfl
  have z5 : wc.cell? ⟨x,13,none⟩ = some (.int .i64 ae) := Blk.cell HCC.out rfl
  have k7 := Blk.cell HBC.out (i := 7) rfl
  have f7 := Blk.fr HBC.out 7
  clear hp hL1 HPP HG
  go_upto_region 5 with fail
  obtain ⟨y,hy⟩ : ∃ y,wc.heap.size = y := ⟨_,rfl⟩
  obtain ⟨w5,hw5⟩ : ∃ w5,(wc.setCell ⟨l,7,none⟩ (.int .i64 ep)).alloc (.cells #[.int .i64 an,.int .i64 ae] 42) = w5 := ⟨_,rfl⟩
  have hks : Kp (· = l) wc w5 := by rw [← hw5];exact ((Kp.refl (· = l) wc).setCell (p := ⟨l,7,none⟩) (fun _ => rfl) _).alloc _
  have hby : Blk w5 y 42 [.int .i64 an,.int .i64 ae] := by
   rw [← hw5,← hy]
   have := Blk.new (wc.setCell ⟨l,7,none⟩ (.int .i64 ep)) [.int .i64 an,.int .i64 ae] 42
   simpa using this
  have ha5 : LAt w5 l L1 F := by rw [← hw5,← HL1.out];exact (HAC.out.fence ep).keptNo ((Kp.refl _ _).alloc _)
  have hc5 := HCC.out.kept hks (fun e => hxl1 e.symm)
  have hd5 := HDC.out.kept hks (fun e => hxl2 e.symm)
  have hk5 : Kp F w w5 := HKW.out.any.trans hks (fun i _ e => by rw [e];exact HAC.out.self)
  have hh5 := Rp.opl.slice.kept HH.out hk5 (fun k hk _ => hk.2)
  have hyx : x + 2 ≤ y := by have := HXS.out;omega
  have HA5 := Lib.hid ha5
  have HC5 := Lib.hid hc5
  have HD5 := Lib.hid hd5
  have HK5 := Lib.hid hk5
  have HH5 := Lib.hid hh5
  have HY5 := Lib.hid hby
  have HYX := Lib.hid hyx
  try rw [hw5]
  try rw [hy]
  clear hw5 hks ha5 hc5 hd5 hk5 hh5 hyx z1 z4 z5 k7 f7 HAC HCC HDC HBC HKW HXS hy
  have s0 : w5.cell? ⟨y,0,none⟩ = some (.int .i64 an) := Blk.cell hby rfl
  have s1 : w5.cell? ⟨y,1,none⟩ = some (.int .i64 ae) := Blk.cell hby rfl
  clear hby
  have han := HROW.out
  unfold rowB at han
  rw [Bool.and_eq_true,decide_eq_true_iff] at han
  have HSPOT := Lib.hid han.1
  clear han
  have hl1o : Hid (L1.ops = L.ops ∧ L1.lost = L.lost ∧ L1.settled = L.settled) := Lib.hid (by rw [← HL1.out];exact ⟨rfl,rfl,rfl⟩)
  go_wp2_with fail
  refine (a_has an ae l L1 F w5 HA5.out HSPOT.out.1 (by rw [hl1o.out.1];have := HOK.out.len;omega)).mono ?_
  rintro e w6 ⟨rfl,hk6⟩
  have HA6 := Lib.hid (HA5.out.keptNo hk6)
  have HC6 := Lib.hid (HC5.out.kept hk6 (fun x => x))
  have HD6 := Lib.hid (HD5.out.kept hk6 (fun x => x))
  have HK6 : Hid (Kp F w w6) := Lib.hid (HK5.out.trans hk6 (fun _ _ h => h.elim))
  have HH6 := Lib.hid (Rp.opl.slice.keptNo HH5.out hk6)
  have HY6 := Lib.hid (HY5.out.kept hk6 (fun x => x))
  clear hk6 s0 s1 HA5 HC5 HD5 HK5 HH5 HY5
  obtain ⟨Hq,hHq⟩ : ∃ Hq,hasL an ae L1 = Hq := ⟨_,rfl⟩
  rw [hHq] at HP
  rw [hHq]
  have HHQ := Lib.hid hHq
  clear hHq
  cases Hq
  case false =>
   have hPe : P = (failD 121,L1) := by have := HP.out;rw [if_neg (by simp)] at this;exact this.symm
   subst hPe
   clear HP
   go_wp2_with fail
   refine (l_failed 121 w6).mono ?_
   rintro e w9 ⟨rfl,hk9⟩
   have h9k := (HK6.out).trans hk9 (fun _ _ h => h.elim)
   have h9a := (HA6.out).keptNo hk9
   have h9d := (HD6.out).kept hk9 (fun x => x)
   have H9K := Lib.hid h9k
   have H9A := Lib.hid h9a
   have H9D := Lib.hid h9d
   have g0 := Blk.fr h9d 0
   have g1 := Blk.fr h9d 1
   have g2 := Blk.fr h9d 2
   have u0 : w9.cell? ⟨x + 1,0,none⟩ = some _ := Blk.cell h9d rfl
   have u1 : w9.cell? ⟨x + 1,1,none⟩ = some _ := Blk.cell h9d rfl
   have u2 : w9.cell? ⟨x + 1,2,none⟩ = some _ := Blk.cell h9d rfl
   clear hk9 h9k h9a h9d
   go_wp2_with fail
   clear g0 g1 g2 u0 u1 u2
   obtain ⟨hkf,hbf⟩ := done_stored H9D.out (.int .i64 121) (.int .i64 0) (.int .i64 0)
   have hfd := HFX.out.2
   have hwx : w.heap.size = x := HX.out
   have hAf := (H9A.out).kept hkf (fun k hk e => hfd (e ▸ hk))
   have hKf := (H9K.out).trans hkf (fun i hi e => absurd hi (by omega))
   exact bodyPost_ret (results_cell_row rfl _ _ (x + 1) _ _ _ _ rfl hbf Tryz.underlying44 rfl (by kernel_rfl)) rfl ⟨by rfl,F,hAf,hKf,fun k hk => .inl hk⟩
  case true =>
   have hp2 := HP.out
   rw [if_pos rfl] at hp2
   have HP2 := Lib.hid hp2
   obtain ⟨k,hk⟩ : ∃ k,hadL L1 ops = k := ⟨_,rfl⟩
   have hkle := hadL_le L1 ops
   rw [hk,HON.out] at hkle
   have HKH := Lib.hid hk
   clear hp2 HP hk
   go_upto_block 0 with fail
   go_cut [6] (fun kv wx => kv = .int .i64 (k : Int) ∧ Hid (Kp No w6 wx))
   case first =>
    have hk0 : k = 0 + hadL L1 (ops.drop 0) := by rw [List.drop_zero,HKH.out];omega
    have HK0 := Lib.hid hk0
    clear hk0
    go_wp2_with fail
    go_loopw [6] (fun kv wr => ∃ j : Nat,j ≤ on ∧ kv = .int .i64 (j : Int) ∧ Hid (k = j + hadL L1 (ops.drop j)) ∧ Hid (Kp No w6 wr)) (fun kv _ => on - (intOf kv).toNat)
    case atStart => exact ⟨0,Nat.zero_le _,rfl,HK0,Lib.hid (Kp.refl _ _)⟩
    case round =>
     clear HK0
     obtain ⟨j,hj,rfl,HJ,HKR⟩ := hrel
     have z14 : wr.cell? ⟨x,14,none⟩ = some (.slice Ao' on cb) := Blk.cell (HC6.out.kept HKR.out (fun x => x)) rfl
     by_cases hlt : j < on
     · have hji : (j : Int) < (on : Int) := by omega
       obtain ⟨o,ho⟩ : ∃ o,ops[j]? = some o := ⟨_,List.getElem?_eq_getElem (by have := HON.out;omega)⟩
       have hread : Rp.opl.slice.R wr (Free F w) [.slice Ao' ops.length cb] ops := by rw [HON.out];exact Rp.opl.slice.keptNo HH6.out HKR.out
       obtain ⟨ad,A2,c2,rfl,_,hcell,hnum,_⟩ := Rp.at_opl hread ho
       obtain ⟨y0,y1,y2,y3,y4,y5,y6,y7,y8⟩ := opl_cells hcell
       have hstep := hadL_step L1 ho
       have hon1 : 0 ≤ o.n := by
        have hr := HROW.out
        unfold rowB at hr
        rw [Bool.and_eq_true] at hr
        have := (rowGo_at hr.2 j o ho).1.1.1
        omega
       have HSTEP := Lib.hid hstep
       have HON1 := Lib.hid hon1
       obtain ⟨nh,hnh⟩ : ∃ nh,o.hashes.length = nh := ⟨_,rfl⟩
       rw [hnh] at y8
       clear ho hread hcell hnum hstep hon1 hnh
       obtain ⟨xn,xe,xk,xs,xc,xq,xnm,xsz,xhs⟩ := o
       simp only at *
       go_wp2_with fail
       refine (l_spot ⟨xn,xe,xk,xs,xc,xq,xnm,xsz,xhs⟩ (.slice A2 nh c2) wr).mono ?_
       rintro e w7 ⟨rfl,hk7⟩
       have HK7 := Lib.hid hk7
       clear hk7
       go_wp2_with fail
       refine (a_has xn xe l L1 F w7 (HA6.out.keptNo (HKR.out.trans' HK7.out)) HON1.out (by rw [hl1o.out.1];have := HOK.out.len;omega)).mono ?_
       rintro e w8 ⟨rfl,hk8⟩
       have HK8 := Lib.hid ((HKR.out.trans' HK7.out).trans' hk8)
       clear hk8 HK7
       obtain ⟨Hj,hHj⟩ : ∃ Hj,hasL xn xe L1 = Hj := ⟨_,rfl⟩
       have hstep := HSTEP.out
       rw [hHj] at hstep
       rw [hHj]
       clear hHj HSTEP
       cases Hj
       · have hkj : j = k := by have := HJ.out;rw [hstep,if_neg (by simp)] at this;omega
         subst hkj
         clear hstep HJ
         go_wp2_with fail
         go_meet
         exact ⟨rfl,HK8⟩
       · have hk1 : k = j + 1 + hadL L1 (ops.drop (j + 1)) := by have := HJ.out;rw [hstep,if_pos rfl] at this;omega
         have HK1 := Lib.hid hk1
         clear hstep HJ hk1
         go_wp2_with fail
         go_roundw
         case rel => exact ⟨j + 1,by omega,by go_num,HK1,HK8⟩
         case measure => simp [intOf];omega
     · obtain rfl : j = on := by omega
       have hkj : j = k := by
        have := HJ.out
        rw [List.drop_eq_nil_of_le (by have := HON.out;omega)] at this
        simpa [hadL] using this.symm
       subst hkj
       clear HJ
       go_wp2_with fail
       go_meet
       exact ⟨rfl,HKR⟩
   case rest =>
   obtain ⟨rfl,HKL⟩ := hcut
   have HA7 := Lib.hid (HA6.out.keptNo HKL.out)
   have HC7 := Lib.hid (HC6.out.kept HKL.out (fun x => x))
   have HD7 := Lib.hid (HD6.out.kept HKL.out (fun x => x))
   have HK7 : Hid (Kp F w wc) := Lib.hid (HK6.out.trans HKL.out (fun _ _ h => h.elim))
   have HH7 := Lib.hid (Rp.opl.slice.keptNo HH6.out HKL.out)
   have HY7 := Lib.hid (HY6.out.kept HKL.out (fun x => x))
   clear HA6 HC6 HD6 HK6 HH6 HY6 HKL
   obtain ⟨cc,hcc⟩ : ∃ cc : CmdL,(⟨ck,ep,st,op,an,ae,ops,tg⟩ : CmdL) = cc := ⟨_,rfl⟩
   obtain ⟨⟨la,le⟩,hla⟩ : ∃ p,lastAt cc = p := ⟨_,rfl⟩
   have hp3 := HP2.out
   rw [HKH.out,hcc,hla] at hp3
   have HP3 := Lib.hid hp3
   have HLA : Hid (lastAt ⟨ck,ep,st,op,an,ae,ops,tg⟩ = (la,le)) := Lib.hid (by rw [hcc,hla])
   clear hp3 HP2 hla hcc
   have z14 : wc.cell? ⟨x,14,none⟩ = some (.slice Ao' on cb) := Blk.cell HC7.out rfl
   go_upto_if 77 with fail
   go_cut [7] (fun nv wx => nv = .int .i64 (on : Int) ∧ Hid (Blk wx y 42 [.int .i64 la,.int .i64 le]) ∧ Hid (Kp (· = y) wc wx))
   case first =>
    have hlast := HLA.out
    unfold lastAt at hlast
    simp only at hlast
    rcases Nat.eq_zero_or_pos on with h0 | h0
    · subst h0
      have hnil : ops = [] := List.eq_nil_of_length_eq_zero HON.out
      rw [hnil] at hlast
      simp only [List.getLast?_nil,Prod.mk.injEq] at hlast
      obtain ⟨rfl,rfl⟩ := hlast
      have HY8 := HY7
      go_wp2_with fail
      go_meet
      exact ⟨rfl,HY8,Lib.hid (Kp.refl _ _)⟩
    · obtain ⟨m,rfl⟩ : ∃ m,on = m + 1 := ⟨on - 1,by omega⟩
      obtain ⟨o,ho⟩ : ∃ o,ops[m]? = some o := ⟨_,List.getElem?_eq_getElem (by have := HON.out;omega)⟩
      have hgl : ops.getLast? = some o := by rw [List.getLast?_eq_getElem?,HON.out];exact ho
      rw [hgl] at hlast
      simp only [Prod.mk.injEq] at hlast
      obtain ⟨rfl,rfl⟩ := hlast
      have hread : Rp.opl.slice.R wc (Free F w) [.slice Ao' ops.length cb] ops := by rw [HON.out];exact HH7.out
      obtain ⟨ad,A2,c2,rfl,_,hcell,hnum,_⟩ := Rp.at_opl hread ho
      obtain ⟨y0,y1,y2,y3,y4,y5,y6,y7,y8⟩ := opl_cells hcell
      obtain ⟨nh,hnh⟩ : ∃ nh,o.hashes.length = nh := ⟨_,rfl⟩
      rw [hnh] at y8
      have hm9 : m ≤ 8 := by omega
      have hwm : IntKind.i64.wrap (m : Int) = (m : Int) := by rw [IntKind.wrap_i64];omega
      have hmlt : (m : Int) < (m : Int) + 1 := by omega
      have hm0 : (0 : Int) < (m : Int) + 1 := by omega
      clear ho hgl hread hcell hnum hnh h0
      go_wp2_with fail
      refine (l_spot o (.slice A2 nh c2) wc).mono ?_
      rintro e w8 ⟨rfl,hk8⟩
      have hy8 := HY7.out.kept hk8 (fun x => x)
      have s0 : w8.cell? ⟨y,0,none⟩ = some _ := Blk.cell hy8 rfl
      have s1 : w8.cell? ⟨y,1,none⟩ = some _ := Blk.cell hy8 rfl
      have g0 := Blk.fr hy8 0
      have g1 := Blk.fr hy8 1
      have HY9 : Hid (Blk ((w8.setCell ⟨y,0,none⟩ (.int .i64 o.n)).setCell ⟨y,1,none⟩ (.int .i64 o.epoch)) y 42 [.int .i64 o.n,.int .i64 o.epoch]) := Lib.hid (Blk.set (Blk.set hy8 0 _) 1 _)
      have HK9 : Hid (Kp (· = y) wc ((w8.setCell ⟨y,0,none⟩ (.int .i64 o.n)).setCell ⟨y,1,none⟩ (.int .i64 o.epoch))) := Lib.hid (((hk8.any : Kp (· = y) wc w8).setCell (p := ⟨y,0,none⟩) (fun _ => rfl) _).setCell (p := ⟨y,1,none⟩) (fun _ => rfl) _)
      clear hk8 hy8 y0 y1 y2 y3 y4 y5 y6 y7 y8 z14
      go_wp2_with fail
      go_meet
      exact ⟨rfl,HY9,HK9⟩
   case rest =>
   obtain ⟨rfl,HYM,HKM⟩ := hcut
   have hyx1 : y ≠ x ∧ y ≠ x + 1 := by have := HYX.out;omega
   have HA8 := Lib.hid (HA7.out.kept HKM.out (fun k hk e => by have h1 := HFLT.out k hk;have h2 := HYX.out;have h3 := HX.out;omega))
   have HC8 := Lib.hid (HC7.out.kept HKM.out (fun e => hyx1.1 e.symm))
   have HD8 := Lib.hid (HD7.out.kept HKM.out (fun e => hyx1.2 e.symm))
   have HK8 : Hid (Kp F w wc) := Lib.hid (HK7.out.trans HKM.out (fun i hi e => by have h2 := HYX.out;have h3 := HX.out;omega))
   have HH8 := Lib.hid (Rp.opl.slice.kept HH7.out HKM.out (fun k hk _ e => by have h1 := hk.1;have h2 := HYX.out;have h3 := HX.out;omega))
   have HY8 := HYM
   have hpl := ship_place HROW.out HHQ.out
   rw [HKH.out] at hpl
   obtain ⟨hpl1,hpl2,hpl3,hpl4⟩ := hpl
   have hLb : 0 ≤ la ∧ la ≤ 80 := by
    have hl := HLA.out
    unfold lastAt at hl
    simp only at hl
    cases hg : ops.getLast? with
    | none =>
      rw [hg] at hl
      simp only [Prod.mk.injEq] at hl
      have := HSPOT.out
      unfold spotP at this
      omega
    | some o =>
      rw [hg] at hl
      simp only [Prod.mk.injEq] at hl
      rw [List.getLast?_eq_getElem?] at hg
      have := (hpl3 _ o hg).1.1
      unfold placeP at this
      omega
   obtain ⟨hla1,hla2⟩ := hLb
   have hset : 0 ≤ L1.settled ∧ L1.settled ≤ 80 := by
    rw [hl1o.out.2.2]
    have h1 := HOK.out.settled
    have h2 := HOK.out.len
    omega
   have HPL3 := Lib.hid hpl3
   have HPL4 := Lib.hid hpl4
   have HPL2 := Lib.hid hpl2
   have HSET := Lib.hid hset
   clear hpl2 hpl3 hpl4 hset HA7 HC7 HD7 HK7 HH7 HY7 HYM hyx1
   have z14 : wc.cell? ⟨x,14,none⟩ = some (.slice Ao' on cb) := Blk.cell HC8.out rfl
   by_cases hkon : k = on
   case pos =>
    have HPT : Hid (P = ((0,la,le),{ L1 with settled := max L1.settled la })) := Lib.hid (by
     have := HP3.out
     rw [List.drop_eq_nil_of_le (by have := HON.out;omega)] at this
     rw [← HL1.out]
     exact this.symm)
    have HUT : Hid (∀ k,F k → F k ∨ y < k) := Lib.hid (fun k hk => .inl hk)
    obtain ⟨hset1,hset2⟩ := HSET.out
    subst hkon
    rcases Ao' with _ | ad
    · have hk0 : k = 0 := by
       have h1 := nil_of_none (c := cb) (l := ops) (by rw [HON.out];exact HH8.out)
       have h2 := HON.out
       rw [h1] at h2
       exact h2.symm
      subst hk0
      go_upto_region 22 with fail
      obtain ⟨sd,hsd⟩ : ∃ sd,(L1).settled = sd := ⟨_,rfl⟩
      obtain ⟨_,_,_,_,_,hblkT⟩ := HA8.out.blk
      have k8 := Blk.cell hblkT (i := 8) rfl
      rw [hsd] at k8
      have f8 := Blk.fr hblkT 8
      have t0 : wc.cell? ⟨y,0,none⟩ = some (.int .i64 la) := Blk.cell HY8.out rfl
      have t1 : wc.cell? ⟨y,1,none⟩ = some (.int .i64 le) := Blk.cell HY8.out rfl
      have hfd : ∀ k,F k → k ≠ x + 1 ∧ k ≠ y ∧ (F k ∨ w.heap.size ≤ k) := fun k hk => by
       have h1 := HX.out
       have h2 := HYX.out
       rcases HUT.out k hk with h | h
       · have := HFLT.out k h;exact ⟨by omega,by omega,.inl h⟩
       · exact ⟨by omega,by omega,.inr (by omega)⟩
      have HFD := Lib.hid hfd
      obtain ⟨M,hM⟩ : ∃ M,(if sd < la then la else sd) = M := ⟨_,rfl⟩
      have hMm : max (L1).settled la = M := by rw [hsd,← hM];split <;> omega
      have HMM := Lib.hid hMm
      clear hfd hMm hblkT
      refine Reg.wp_region_plan [⟨0,false,[]⟩,⟨1,false,[]⟩,⟨2,false,[]⟩,⟨3,false,[]⟩,⟨4,false,[]⟩,⟨5,false,[]⟩,⟨6,false,[]⟩,⟨7,false,[]⟩,⟨8,false,[]⟩,⟨9,false,[]⟩,⟨10,true,[]⟩] rfl (by kernel_rfl) ?_
      repeat (first | (refine Reg.look rfl rfl rfl (by go_simp;rfl) rfl ?_;go_simp) | (refine Reg.skip rfl rfl rfl ?_;go_simp))
      try rw [hM]
      refine Reg.act rfl ?_
      go_wp2_with fail
      (refine ⟨?anew,?_⟩;case anew => ((repeat (refine Reg.anew_cons rfl rfl (fun _ => by go_simp) ?_));exact Reg.anew_nil))
      repeat (first | (refine Reg.look rfl rfl rfl (by go_simp;rfl) rfl ?_;go_simp) | (refine Reg.skip rfl rfl rfl ?_;go_simp))
      (refine Reg.done ?_;simp only [Exit.then])
      have hks : Kp (· = l) wc (wc.setCell ⟨l,8,none⟩ (.int .i64 M)).drew := ((Kp.refl (· = l) wc).setCell (p := ⟨l,8,none⟩) (fun _ => rfl) _).drew
      have hAz := (HA8.out.settled M).keptNo ((Kp.refl No _).drew)
      have hDz := HD8.out.kept hks (fun e => hxl2 e.symm)
      have hYz := HY8.out.kept hks (fun e => (HFD.out l HA8.out.self).2.1 e.symm)
      have hKz : Kp F w (wc.setCell ⟨l,8,none⟩ (.int .i64 M)).drew := HK8.out.trans hks (fun i hi e => by
       rcases (HFD.out l HA8.out.self).2.2 with h | h
       · rw [e];exact h
       · omega)
      obtain ⟨wz,hwz⟩ : ∃ wz,(wc.setCell ⟨l,8,none⟩ (.int .i64 M)).drew = wz := ⟨_,rfl⟩
      rw [hwz] at hAz hDz hYz hKz
      rw [hwz]
      have HAZ := Lib.hid hAz
      have HDZ := Lib.hid hDz
      have HKZ := Lib.hid hKz
      clear hwz hks hAz hKz k8 f8 t0 t1 hM hsd
      have t0 : wz.cell? ⟨y,0,none⟩ = some (.int .i64 la) := Blk.cell hYz rfl
      have t1 : wz.cell? ⟨y,1,none⟩ = some (.int .i64 le) := Blk.cell hYz rfl
      have u0 : wz.cell? ⟨x + 1,0,none⟩ = some _ := Blk.cell hDz rfl
      have u1 : wz.cell? ⟨x + 1,1,none⟩ = some _ := Blk.cell hDz rfl
      have u2 : wz.cell? ⟨x + 1,2,none⟩ = some _ := Blk.cell hDz rfl
      have g0 := Blk.fr hDz 0
      have g1 := Blk.fr hDz 1
      have g2 := Blk.fr hDz 2
      clear hDz hYz
      go_wp2_with fail
      clear g0 g1 g2 u0 u1 u2 t0 t1
      obtain ⟨hkf,hbf⟩ := done_stored HDZ.out (.int .i64 0) (.int .i64 la) (.int .i64 le)
      have hwx : w.heap.size = x := HX.out
      have hAf := HAZ.out.kept hkf (fun k hk e => (HFD.out k hk).1 e)
      have hKf := HKZ.out.trans hkf (fun i hi e => absurd hi (by omega))
      have hF' : ∀ k,F k → F k ∨ w.heap.size ≤ k := fun k hk => (HFD.out k hk).2.2
      have hPe : P = ((0,la,le),{ L1 with settled := M }) := by rw [HPT.out,HMM.out]
      subst hPe
      exact bodyPost_ret (results_cell_row rfl _ _ (x + 1) _ _ _ _ rfl hbf Tryz.underlying44 rfl (by kernel_rfl)) rfl ⟨rfl,F,hAf,hKf,hF'⟩
    · by_cases hcb : cb = k
      · subst hcb
        go_upto_region 22 with fail
        obtain ⟨sd,hsd⟩ : ∃ sd,(L1).settled = sd := ⟨_,rfl⟩
        obtain ⟨_,_,_,_,_,hblkT⟩ := HA8.out.blk
        have k8 := Blk.cell hblkT (i := 8) rfl
        rw [hsd] at k8
        have f8 := Blk.fr hblkT 8
        have t0 : wc.cell? ⟨y,0,none⟩ = some (.int .i64 la) := Blk.cell HY8.out rfl
        have t1 : wc.cell? ⟨y,1,none⟩ = some (.int .i64 le) := Blk.cell HY8.out rfl
        have hfd : ∀ k,F k → k ≠ x + 1 ∧ k ≠ y ∧ (F k ∨ w.heap.size ≤ k) := fun k hk => by
         have h1 := HX.out
         have h2 := HYX.out
         rcases HUT.out k hk with h | h
         · have := HFLT.out k h;exact ⟨by omega,by omega,.inl h⟩
         · exact ⟨by omega,by omega,.inr (by omega)⟩
        have HFD := Lib.hid hfd
        obtain ⟨M,hM⟩ : ∃ M,(if sd < la then la else sd) = M := ⟨_,rfl⟩
        have hMm : max (L1).settled la = M := by rw [hsd,← hM];split <;> omega
        have HMM := Lib.hid hMm
        clear hfd hMm hblkT
        refine Reg.wp_region_plan [⟨0,false,[]⟩,⟨1,false,[]⟩,⟨2,false,[]⟩,⟨3,false,[]⟩,⟨4,false,[]⟩,⟨5,false,[]⟩,⟨6,false,[]⟩,⟨7,false,[]⟩,⟨8,false,[]⟩,⟨9,false,[]⟩,⟨10,true,[]⟩] rfl (by kernel_rfl) ?_
        repeat (first | (refine Reg.look rfl rfl rfl (by go_simp;rfl) rfl ?_;go_simp) | (refine Reg.skip rfl rfl rfl ?_;go_simp))
        try rw [hM]
        refine Reg.act rfl ?_
        go_wp2_with fail
        (refine ⟨?anew,?_⟩;case anew => ((repeat (refine Reg.anew_cons rfl rfl (fun _ => by go_simp) ?_));exact Reg.anew_nil))
        repeat (first | (refine Reg.look rfl rfl rfl (by go_simp;rfl) rfl ?_;go_simp) | (refine Reg.skip rfl rfl rfl ?_;go_simp))
        (refine Reg.done ?_;simp only [Exit.then])
        have hks : Kp (· = l) wc (wc.setCell ⟨l,8,none⟩ (.int .i64 M)).drew := ((Kp.refl (· = l) wc).setCell (p := ⟨l,8,none⟩) (fun _ => rfl) _).drew
        have hAz := (HA8.out.settled M).keptNo ((Kp.refl No _).drew)
        have hDz := HD8.out.kept hks (fun e => hxl2 e.symm)
        have hYz := HY8.out.kept hks (fun e => (HFD.out l HA8.out.self).2.1 e.symm)
        have hKz : Kp F w (wc.setCell ⟨l,8,none⟩ (.int .i64 M)).drew := HK8.out.trans hks (fun i hi e => by
         rcases (HFD.out l HA8.out.self).2.2 with h | h
         · rw [e];exact h
         · omega)
        obtain ⟨wz,hwz⟩ : ∃ wz,(wc.setCell ⟨l,8,none⟩ (.int .i64 M)).drew = wz := ⟨_,rfl⟩
        rw [hwz] at hAz hDz hYz hKz
        rw [hwz]
        have HAZ := Lib.hid hAz
        have HDZ := Lib.hid hDz
        have HKZ := Lib.hid hKz
        clear hwz hks hAz hKz k8 f8 t0 t1 hM hsd
        have t0 : wz.cell? ⟨y,0,none⟩ = some (.int .i64 la) := Blk.cell hYz rfl
        have t1 : wz.cell? ⟨y,1,none⟩ = some (.int .i64 le) := Blk.cell hYz rfl
        have u0 : wz.cell? ⟨x + 1,0,none⟩ = some _ := Blk.cell hDz rfl
        have u1 : wz.cell? ⟨x + 1,1,none⟩ = some _ := Blk.cell hDz rfl
        have u2 : wz.cell? ⟨x + 1,2,none⟩ = some _ := Blk.cell hDz rfl
        have g0 := Blk.fr hDz 0
        have g1 := Blk.fr hDz 1
        have g2 := Blk.fr hDz 2
        clear hDz hYz
        go_wp2_with fail
        clear g0 g1 g2 u0 u1 u2 t0 t1
        obtain ⟨hkf,hbf⟩ := done_stored HDZ.out (.int .i64 0) (.int .i64 la) (.int .i64 le)
        have hwx : w.heap.size = x := HX.out
        have hAf := HAZ.out.kept hkf (fun k hk e => (HFD.out k hk).1 e)
        have hKf := HKZ.out.trans hkf (fun i hi e => absurd hi (by omega))
        have hF' : ∀ k,F k → F k ∨ w.heap.size ≤ k := fun k hk => (HFD.out k hk).2.2
        have hPe : P = ((0,la,le),{ L1 with settled := M }) := by rw [HPT.out,HMM.out]
        subst hPe
        exact bodyPost_ret (results_cell_row rfl _ _ (x + 1) _ _ _ _ rfl hbf Tryz.underlying44 rfl (by kernel_rfl)) rfl ⟨rfl,F,hAf,hKf,hF'⟩
      · have hcb2 : ¬ k = cb := fun e => hcb e.symm
        go_upto_region 22 with fail
        obtain ⟨sd,hsd⟩ : ∃ sd,(L1).settled = sd := ⟨_,rfl⟩
        obtain ⟨_,_,_,_,_,hblkT⟩ := HA8.out.blk
        have k8 := Blk.cell hblkT (i := 8) rfl
        rw [hsd] at k8
        have f8 := Blk.fr hblkT 8
        have t0 : wc.cell? ⟨y,0,none⟩ = some (.int .i64 la) := Blk.cell HY8.out rfl
        have t1 : wc.cell? ⟨y,1,none⟩ = some (.int .i64 le) := Blk.cell HY8.out rfl
        have hfd : ∀ k,F k → k ≠ x + 1 ∧ k ≠ y ∧ (F k ∨ w.heap.size ≤ k) := fun k hk => by
         have h1 := HX.out
         have h2 := HYX.out
         rcases HUT.out k hk with h | h
         · have := HFLT.out k h;exact ⟨by omega,by omega,.inl h⟩
         · exact ⟨by omega,by omega,.inr (by omega)⟩
        have HFD := Lib.hid hfd
        obtain ⟨M,hM⟩ : ∃ M,(if sd < la then la else sd) = M := ⟨_,rfl⟩
        have hMm : max (L1).settled la = M := by rw [hsd,← hM];split <;> omega
        have HMM := Lib.hid hMm
        clear hfd hMm hblkT
        refine Reg.wp_region_plan [⟨0,false,[]⟩,⟨1,false,[]⟩,⟨2,false,[]⟩,⟨3,false,[]⟩,⟨4,false,[]⟩,⟨5,false,[]⟩,⟨6,false,[]⟩,⟨7,false,[]⟩,⟨8,false,[]⟩,⟨9,false,[]⟩,⟨10,true,[]⟩] rfl (by kernel_rfl) ?_
        repeat (first | (refine Reg.look rfl rfl rfl (by go_simp;rfl) rfl ?_;go_simp) | (refine Reg.skip rfl rfl rfl ?_;go_simp))
        try rw [hM]
        refine Reg.act rfl ?_
        go_wp2_with fail
        (refine ⟨?anew,?_⟩;case anew => ((repeat (refine Reg.anew_cons rfl rfl (fun _ => by go_simp) ?_));exact Reg.anew_nil))
        repeat (first | (refine Reg.look rfl rfl rfl (by go_simp;rfl) rfl ?_;go_simp) | (refine Reg.skip rfl rfl rfl ?_;go_simp))
        (refine Reg.done ?_;simp only [Exit.then])
        have hks : Kp (· = l) wc (wc.setCell ⟨l,8,none⟩ (.int .i64 M)).drew := ((Kp.refl (· = l) wc).setCell (p := ⟨l,8,none⟩) (fun _ => rfl) _).drew
        have hAz := (HA8.out.settled M).keptNo ((Kp.refl No _).drew)
        have hDz := HD8.out.kept hks (fun e => hxl2 e.symm)
        have hYz := HY8.out.kept hks (fun e => (HFD.out l HA8.out.self).2.1 e.symm)
        have hKz : Kp F w (wc.setCell ⟨l,8,none⟩ (.int .i64 M)).drew := HK8.out.trans hks (fun i hi e => by
         rcases (HFD.out l HA8.out.self).2.2 with h | h
         · rw [e];exact h
         · omega)
        obtain ⟨wz,hwz⟩ : ∃ wz,(wc.setCell ⟨l,8,none⟩ (.int .i64 M)).drew = wz := ⟨_,rfl⟩
        rw [hwz] at hAz hDz hYz hKz
        rw [hwz]
        have HAZ := Lib.hid hAz
        have HDZ := Lib.hid hDz
        have HKZ := Lib.hid hKz
        clear hwz hks hAz hKz k8 f8 t0 t1 hM hsd
        have t0 : wz.cell? ⟨y,0,none⟩ = some (.int .i64 la) := Blk.cell hYz rfl
        have t1 : wz.cell? ⟨y,1,none⟩ = some (.int .i64 le) := Blk.cell hYz rfl
        have u0 : wz.cell? ⟨x + 1,0,none⟩ = some _ := Blk.cell hDz rfl
        have u1 : wz.cell? ⟨x + 1,1,none⟩ = some _ := Blk.cell hDz rfl
        have u2 : wz.cell? ⟨x + 1,2,none⟩ = some _ := Blk.cell hDz rfl
        have g0 := Blk.fr hDz 0
        have g1 := Blk.fr hDz 1
        have g2 := Blk.fr hDz 2
        clear hDz hYz
        go_wp2_with fail
        clear g0 g1 g2 u0 u1 u2 t0 t1
        obtain ⟨hkf,hbf⟩ := done_stored HDZ.out (.int .i64 0) (.int .i64 la) (.int .i64 le)
        have hwx : w.heap.size = x := HX.out
        have hAf := HAZ.out.kept hkf (fun k hk e => (HFD.out k hk).1 e)
        have hKf := HKZ.out.trans hkf (fun i hi e => absurd hi (by omega))
        have hF' : ∀ k,F k → F k ∨ w.heap.size ≤ k := fun k hk => (HFD.out k hk).2.2
        have hPe : P = ((0,la,le),{ L1 with settled := M }) := by rw [HPT.out,HMM.out]
        subst hPe
        exact bodyPost_ret (results_cell_row rfl _ _ (x + 1) _ _ _ _ rfl hbf Tryz.underlying44 rfl (by kernel_rfl)) rfl ⟨rfl,F,hAf,hKf,hF'⟩
   case neg =>
    have hklt : k < on := by omega
    obtain ⟨o,ho⟩ : ∃ o,ops[k]? = some o := ⟨_,List.getElem?_eq_getElem (by have := HON.out;omega)⟩
    have hread : Rp.opl.slice.R wc (Free F w) [.slice Ao' ops.length cb] ops := by rw [HON.out];exact HH8.out
    have hocb : on ≤ cb := by
     obtain ⟨A5,c5,e5,h5,_⟩ := hread
     simp only [List.cons.injEq,Value.slice.injEq,and_true,true_and] at e5
     have := HON.out
     omega
    obtain ⟨ad,A2,c2,rfl,_,hcell,hnum,_⟩ := Rp.at_opl hread ho
    obtain ⟨y0,y1,y2,y3,y4,y5,y6,y7,y8⟩ := opl_cells hcell
    have hod : ops.drop k = o :: ops.drop (k + 1) := by
     obtain ⟨h1,h2⟩ := List.getElem?_eq_some_iff.1 ho
     rw [List.drop_eq_getElem_cons h1,h2]
    obtain ⟨hokp,hon⟩ := HPL3.out k o ho
    have hp4 := HP3.out
    rw [hod] at hp4
    simp only at hp4
    have hkind := fun h => HPL4.out o ho h
    obtain ⟨nh,hnh⟩ : ∃ nh,o.hashes.length = nh := ⟨_,rfl⟩
    rw [hnh] at y8
    have HP4 := Lib.hid hp4
    have HOD := Lib.hid hod
    have HOKP := Lib.hid hokp
    have HKIND := Lib.hid hkind
    have hcbk : ¬ cb = k := by omega
    have hik : (k : Int) < (on : Int) := by omega
    have hx80 : 1 ≤ o.n ∧ o.n ≤ 80 := ⟨hokp.1.1,hokp.1.2.1⟩
    obtain ⟨hxn1,hxn2⟩ := hx80
    obtain ⟨p,hpn⟩ : ∃ p : Nat,o.n - 1 = (p : Int) := ⟨(o.n - 1).toNat,by omega⟩
    have hpk : (p : Int) = an + k := by omega
    have HPK := Lib.hid hpk
    clear ho hread hcell hnum hod hokp hon hp4 HP3 hkind hnh
    obtain ⟨xn,xe,xk,xs,xc,xq,xnm,xsz,xhs⟩ := o
    simp only at *
    have hkl2 : k ≤ cb := by omega
    go_upto_region 16 with fail
    obtain ⟨z,hz⟩ : ∃ z,wc.heap.size = z := ⟨_,rfl⟩
    obtain ⟨w9,hw9⟩ : ∃ w9,wc.alloc (.cells #[.int .i64 xn,.int .i64 xe,.int .i64 xk,.int .i64 xs,.int .i64 xc,.int .i64 xq,.string xnm,.int .i64 xsz,.slice A2 nh c2] 36) = w9 := ⟨_,rfl⟩
    have hk9 : Kp No wc w9 := by rw [← hw9];exact (Kp.refl _ _).alloc _
    have hbz : Blk w9 z 36 [.int .i64 xn,.int .i64 xe,.int .i64 xk,.int .i64 xs,.int .i64 xc,.int .i64 xq,.string xnm,.int .i64 xsz,.slice A2 nh c2] := by rw [← hw9,← hz];exact Blk.new wc _ _
    have hyz : y < z := by have := Blk.lt HY8.out;omega
    have HA9 := Lib.hid (HA8.out.keptNo hk9)
    have HC9 := Lib.hid (HC8.out.kept hk9 (fun x => x))
    have HD9 := Lib.hid (HD8.out.kept hk9 (fun x => x))
    have HK9 : Hid (Kp F w w9) := Lib.hid (HK8.out.trans hk9 (fun _ _ h => h.elim))
    have HH9 := Lib.hid (Rp.opl.slice.keptNo HH8.out hk9)
    have HY9 := Lib.hid (HY8.out.kept hk9 (fun x => x))
    have HZ9 := Lib.hid hbz
    have HYZ := Lib.hid hyz
    have v0 : w9.cell? ⟨z,0,none⟩ = some (.int .i64 xn) := Blk.cell hbz rfl
    have v2 : w9.cell? ⟨z,2,none⟩ = some (.int .i64 xk) := Blk.cell hbz rfl
    have v3 : w9.cell? ⟨z,3,none⟩ = some (.int .i64 xs) := Blk.cell hbz rfl
    rw [hw9,hz]
    clear hw9 hz hk9 hbz hyz y0 y1 y2 y3 y4 y5 y6 y7 y8 z14 HA8 HC8 HD8 HK8 HH8 HY8
    obtain ⟨G2,hG2⟩ : ∃ G2,decide (xk ≠ 3 ∧ siteAt xn L1 ≠ some xs) = G2 := ⟨_,rfl⟩
    have HG2 := Lib.hid hG2
    clear hG2
    go_cut [112] (fun b wx => b = .bool G2 ∧ Hid (Kp No w9 wx))
    case first =>
     by_cases hk3 : xk = 3
     · have hGe : G2 = false := by rw [← HG2.out];exact decide_eq_false (fun h => h.1 hk3)
       subst hGe
       subst hk3
       clear HG2
       go_quiet (fail)
       go_wp2_with fail
       go_meet
       exact ⟨rfl,Lib.hid ((Kp.refl _ _).drewN _)⟩
     · have h1p := HKIND.out hk3
       obtain ⟨q,hq⟩ : ∃ q : Nat,xn - 2 = (q : Int) := ⟨(xn - 2).toNat,by omega⟩
       have hpl2 := HPL2.out
       have hlo : L1.ops = L.ops := hl1o.out.1
       have hqlen : q < L1.ops.length := by omega
       obtain ⟨o2,ho2⟩ : ∃ o,L1.ops[q]? = some o := ⟨_,List.getElem?_eq_getElem hqlen⟩
       have hsite : siteAt xn L1 = some o2.site := by unfold siteAt;rw [hq,Int.toNat_natCast,ho2];rfl
       obtain ⟨c1,c2',ov,lv,S,hin,_⟩ := HA9.out
       obtain ⟨A0,c0,hov⟩ := hin.oshape
       subst hov
       obtain ⟨g,_,_,rfl,_,_,hcell,_,_,_⟩ := Own.at_opl hin.ops ho2
       have k5 : w9.cell? ⟨l,5,none⟩ = some (.slice (some ⟨g,0,none⟩) L1.ops.length c0) := Blk.cell hin.fat.blk rfl
       have q3 : w9.cell? ⟨g,q * 9 + 3,none⟩ = some (.int .i64 o2.site) := hcell 3 _ rfl
       obtain ⟨n1,hn1⟩ : ∃ n1,L1.ops.length = n1 := ⟨_,rfl⟩
       obtain ⟨s2,hs2⟩ : ∃ s2,o2.site = s2 := ⟨_,rfl⟩
       rw [hn1] at k5 hqlen
       rw [hs2] at q3 hsite
       have hqi : (q : Int) < (n1 : Int) := by omega
       have hq80 : q ≤ 80 := by omega
       have hwq : IntKind.i64.wrap (q : Int) = (q : Int) := by rw [IntKind.wrap_i64];omega
       have hk3b : (xk == 3) = false := beq_eq_false_iff_ne.2 hk3
       have hk3n : (xk != 3) = true := by simp [hk3]
       have hG := HG2.out
       rw [hsite] at hG
       clear hcell ho2 hsite hin hn1 hs2 hpl2 hlo h1p HG2
       by_cases hss : s2 = xs
       · have hGe : G2 = false := by rw [← hG];exact decide_eq_false (fun h => h.2 (by rw [hss]))
         subst hGe
         subst hss
         clear hG
         go_quiet (fail)
         go_wp2_with fail
         go_meet
         exact ⟨rfl,Lib.hid ((Kp.refl _ _).drewN _)⟩
       · have hGe : G2 = true := by rw [← hG];exact decide_eq_true ⟨hk3,fun h => hss (by injection h)⟩
         subst hGe
         clear hG
         have hsb : (s2 == xs) = false := beq_eq_false_iff_ne.2 hss
         have hsn : (s2 != xs) = true := by simp [hss]
         go_quiet (fail)
         go_wp2_with fail
         go_meet
         exact ⟨rfl,Lib.hid ((Kp.refl _ _).drewN _)⟩
    case rest =>
    obtain ⟨rfl,HKN⟩ := hcut
    have HAN := Lib.hid (HA9.out.keptNo HKN.out)
    have HDN := Lib.hid (HD9.out.kept HKN.out (fun x => x))
    have HKF : Hid (Kp F w wc) := Lib.hid (HK9.out.trans HKN.out (fun _ _ h => h.elim))
    have HHN := Lib.hid (Rp.opl.slice.keptNo HH9.out HKN.out)
    have HYN := Lib.hid (HY9.out.kept HKN.out (fun x => x))
    have HZN := Lib.hid (HZ9.out.kept HKN.out (fun x => x))
    clear HA9 HC9 HD9 HK9 HH9 HY9 HZ9 v0 v2 v3
    cases G2
    case true =>
     have hPe : P = (failD 121,L1) := by
      have := HP4.out
      rw [if_pos (of_decide_eq_true HG2.out)] at this
      rw [← this,← HL1.out]
     subst hPe
     clear HP4
     go_wp2_with fail
     refine (l_failed 121 wc).mono ?_
     rintro e w9 ⟨rfl,hk9⟩
     have h9k := (HKF.out).trans hk9 (fun _ _ h => h.elim)
     have h9a := (HAN.out).keptNo hk9
     have h9d := (HDN.out).kept hk9 (fun x => x)
     have H9K := Lib.hid h9k
     have H9A := Lib.hid h9a
     have H9D := Lib.hid h9d
     have g0 := Blk.fr h9d 0
     have g1 := Blk.fr h9d 1
     have g2 := Blk.fr h9d 2
     have u0 : w9.cell? ⟨x + 1,0,none⟩ = some _ := Blk.cell h9d rfl
     have u1 : w9.cell? ⟨x + 1,1,none⟩ = some _ := Blk.cell h9d rfl
     have u2 : w9.cell? ⟨x + 1,2,none⟩ = some _ := Blk.cell h9d rfl
     clear hk9 h9k h9a h9d
     go_wp2_with fail
     clear g0 g1 g2 u0 u1 u2
     obtain ⟨hkf,hbf⟩ := done_stored H9D.out (.int .i64 121) (.int .i64 0) (.int .i64 0)
     have hfd := HFX.out.2
     have hwx : w.heap.size = x := HX.out
     have hAf := (H9A.out).kept hkf (fun k hk e => hfd (e ▸ hk))
     have hKf := (H9K.out).trans hkf (fun i hi e => absurd hi (by omega))
     exact bodyPost_ret (results_cell_row rfl _ _ (x + 1) _ _ _ _ rfl hbf Tryz.underlying44 rfl (by kernel_rfl)) rfl ⟨by rfl,F,hAf,hKf,fun k hk => .inl hk⟩
    case false =>
     have hp5 := HP4.out
     rw [if_neg (of_decide_eq_false HG2.out),← HOD.out] at hp5
     have hpt : (xn - 1).toNat = p := by rw [hpn,Int.toNat_natCast]
     rw [hpt] at hp5
     have HP5 := Lib.hid hp5
     have v0 : wc.cell? ⟨z,0,none⟩ = some (.int .i64 xn) := Blk.cell HZN.out rfl
     have hwp : IntKind.i64.wrap (xn - 1) = (p : Int) := by rw [IntKind.wrap_i64];omega
     have hlo := hl1o.out.1
     have hpart := a_part p l L1 F wc HAN.out (by rw [hlo];exact HOK.out.small) (by rw [hlo];have := HOK.out.len;omega) (by rw [hl1o.out.2.1];have h1 := HOK.out.lost;have h2 := HBB.out;omega) (by rw [hl1o.out.2.1];exact HOK.out.bare) (by have := HSET.out;omega)
     have HPART := Lib.hid hpart
     clear hp5 hpt hlo hpart HP4 HG2 HKN hpn hpk hxn1 hxn2 hik hkl2 hcbk hocb hklt hkon
     go_wp2_with fail
     refine HPART.out.mono ?_
     rintro e w11 ⟨rfl,F11,h11,hu11⟩
     have hxw := HX.out
     have hyx := HYX.out
     have hyz := HYZ.out
     have hzc : z < wc.heap.size := Blk.lt HZN.out
     have hnF : ∀ k,F k → k < x := fun k hk => by have := HFLT.out k hk;omega
     have HA11 := Lib.hid h11
     have HU11 := Lib.hid hu11
     have HD11 := Lib.hid (HDN.out.kept hu11.kp (fun e => HFX.out.2 e))
     have HY11 := Lib.hid (HYN.out.kept hu11.kp (fun e => by have := hnF _ e;omega))
     have HK11 : Hid (Kp F w w11) := Lib.hid (HKF.out.trans' hu11.kp)
     have HH11 := Lib.hid (Rp.opl.slice.kept HHN.out hu11.kp (fun k hk _ => hk.2))
     have HZC := Lib.hid hzc
     have hcw : wc.heap.size ≤ w11.heap.size := hu11.kp.size
     have HCW := Lib.hid hcw
     clear h11 hu11 hxw hyx hyz hzc hnF hcw v0 HPART HAN HDN HKF HHN HYN HZN
     have hread : Rp.opl.slice.R w11 (Free F w) [.slice (some (ad.add (k * 9))) (ops.drop k).length (cb - k)] (ops.drop k) := Rp.cut (by rw [HON.out];exact HH11.out) (by rw [HON.out];omega)
     have hdl : (ops.drop k).length = on - k := by rw [List.length_drop,HON.out]
     have hokd : ∀ o ∈ ops.drop k,okP o := fun o ho => by
      obtain ⟨i,hi⟩ := List.getElem?_of_mem ho
      rw [List.getElem?_drop] at hi
      exact (HPL3.out _ o hi).1
     have hown := c_own (ops.drop k) _ _ w11 _ hread (by omega) (fun o ho => by have := (hokd o ho).hashes;omega)
     rw [hdl] at hown
     have HOWN := Lib.hid hown
     have HDL := Lib.hid hdl
     have HOKD := Lib.hid hokd
     clear hread hdl hokd hown HH11
     go_wp2_with fail
     refine HOWN.out.mono ?_
     rintro e w12 ⟨A12,c12,rfl,_,_,hown12,hk12⟩
     rw [← HDL.out] at hown12
     obtain ⟨d1,d2,ov,lv,S,hin,hF11⟩ := HA11.out.keptNo hk12
     obtain ⟨A13,c13,hov⟩ := hin.oshape
     subst hov
     have hob := hown12.bnd
     have hsrc : Rp.opl.slice.R w12 (fun k => w11.heap.size ≤ k ∧ k < w12.heap.size) [.slice A12 (ops.drop k).length c12] (ops.drop k) := hob.read (fun k hk => hown12.lt k hk)
     have hft : ∀ k,Foot l d1 d2 (.slice A13 (partL p L1).ops.length c13) lv S k → k < w11.heap.size := fun k hk => HA11.out.lt k ((hF11 k).2 hk)
     have hnew : ∀ k,(w11.heap.size ≤ k ∧ k < w12.heap.size) → k < w12.heap.size ∧ ¬ T3 l d1 d2 k ∧ (Value.slice A13 (partL p L1).ops.length c13).ownBlock ≠ some k ∧ lv.ownBlock ≠ some k := fun k hk =>
      ⟨hk.2,fun h => by have := hft k (.inl h);omega,fun h => by have := hft k (.inr (.inl h));omega,fun h => by have := hft k (.inr (.inr (.inl h)));omega⟩
     have hpo : (partL p L1).ops.length = p := by
      have h1 := HPL2.out
      have h3 := HPK.out
      have h2 : L1.ops.length = L.ops.length := by rw [hl1o.out.1]
      unfold partL
      split
      · have : L1.ops.length = p := by omega
        exact this
      · rw [List.length_take];omega
     have hpops : (partL p L1).ops = L.ops.take p := by
      unfold partL
      split
      · rw [hl1o.out.1,List.take_of_length_le (by rw [← hl1o.out.1];assumption)]
      · simp only;rw [hl1o.out.1]
     have hp80 : p ≤ 80 := by have h1 := HPL2.out;have h2 := HPK.out;have h3 := HOK.out.len;have h4 : L1.ops.length = L.ops.length := by rw [hl1o.out.1]
                              omega
     have k5 : w12.cell? ⟨l,5,none⟩ = some (.slice A13 (partL p L1).ops.length c13) := Blk.cell hin.fat.blk rfl
     have f5 := Blk.fr hin.fat.blk 5
     have HIN := Lib.hid hin
     have HSRC := Lib.hid hsrc
     have HFT := Lib.hid hft
     have HNEW := Lib.hid hnew
     have HOB := Lib.hid hown12
     have HPO := Lib.hid hpo
     have HPOPS := Lib.hid hpops
     have HF11 := Lib.hid hF11
     have HK12 := Lib.hid hk12
     obtain ⟨PL,hPL⟩ : ∃ PL,partL p L1 = PL := ⟨_,rfl⟩
     rw [hPL] at HIN k5 HFT HNEW HPO HPOPS HF11
     obtain ⟨rl,hrl⟩ : ∃ rl,(ops.drop k).length = rl := ⟨_,rfl⟩
     rw [hrl] at HSRC
     have hrlon : on - k = rl := by rw [← HDL.out,hrl]
     rw [hrlon]
     have hrl8 : rl ≤ 8 := by omega
     have HPLE := Lib.hid hPL
     have HRL := Lib.hid hrl
     have HOPL : Hid (Own Rp.opl w12 S 0 36 (.slice A13 PL.ops.length c13) PL.ops) := Lib.hid HIN.out.ops
     have hso : Hid (∀ k,(Value.slice A13 PL.ops.length c13).ownBlock = some k → ¬ (S k ∨ (w11.heap.size ≤ k ∧ k < w12.heap.size))) := Lib.hid (by
      rintro k hk (h | h)
      · exact HIN.out.so k hk h
      · exact (HNEW.out k h).2.2.1 hk)
     clear hin hF11 hob hsrc hft hnew hpo hpops hown12 hk12 hPL hrl HOWN HDL
     go_wp2_with (at_builtin;first
      | (refine wpList_append_rp (E := Rp.opl) rfl _ (.tmp 125) (.tmp 126) 37 rfl 0 36 96 el_op (fun k => S k ∨ (w11.heap.size ≤ k ∧ k < w12.heap.size)) (.slice A13 PL.ops.length c13) PL.ops rfl ?d0 A12 c12 (fun k => w11.heap.size ≤ k ∧ k < w12.heap.size) (ops.drop k) (by rw [HRL.out];rfl) (by rw [HRL.out];exact HSRC.out) Rp.opl_one ?d1 ?d2 (Nat.zero_le _) (fun _ h => .inr h) ?d3 ?_
         case d0 => exact HOPL.out.mono (Nat.le_refl _) (fun _ h => .inl h)
         case d1 => rw [HPO.out,HRL.out];simp [maxLen];omega
         case d2 => rw [HPO.out,HRL.out];omega
         case d3 => exact hso.out
         intro v5 w13 hown5 hg5 hb5
         obtain ⟨A5,c5,rfl⟩ := hown5.shape
         have hk5 : Kp (fun k => (Value.slice A13 PL.ops.length c13).ownBlock = some k) w12 w13 := (Kp.refl _ _).grown hg5 (fun g hg _ => hg)
         have hb5l := HIN.out.fat.blk.kept hk5 (fun e => HIN.out.ol l e (.inl rfl))
         have k5e := Blk.cell hb5l (i := 5) rfl
         have f5e := Blk.fr hb5l 5
         obtain ⟨h6,hk6⟩ := HIN.out.grown HNEW.out hown5 hg5 hb5
         have H6 := Lib.hid h6
         have HK6 := Lib.hid hk6
         have HB5 := Lib.hid hb5
         clear h6 hk6 hown5 hg5 hb5 hk5 hb5l k5 f5))
     have hlen : (PL.ops ++ ops.drop k).length = PL.ops.length + (ops.length - k) := by simp
     rw [hlen] at H6 HK6 HB5
     obtain ⟨ws,hws⟩ : ∃ ws,w13.setCell ⟨l,5,none⟩ (.slice A5 (PL.ops.length + (ops.length - k)) c5) = ws := ⟨_,rfl⟩
     rw [hws] at H6 HK6
     rw [hws]
     have hownT : Own Rp.opl ws (fun k => S k ∨ (w11.heap.size ≤ k ∧ k < w12.heap.size)) w11.heap.size 36 (.slice A12 (ops.drop k).length c12) (ops.drop k) :=
      (HOB.out.bnd.mono (Nat.le_refl _) (fun _ h => .inr h)).kept HK6.out (fun i hi _ e => by
       rcases e with e | e
       · rcases hi with h | h
         · exact HIN.out.fat.s0 (e ▸ h)
         · exact (HNEW.out i h).2.1 (.inl e)
       · exact hso.out i e hi) (fun i hi e => by
       have h := HOB.out.lt i hi
       rcases e with e | e
       · exact (HNEW.out i h).2.1 (.inl e)
       · exact (HNEW.out i h).2.2.1 e)
     have hfp : PL.fold.Ok p := by
      have := FV.fresh_ok.take PL.ops (by rw [HPOPS.out];exact fun o ho => HOK.out.small o (List.mem_of_mem_take ho))
      rw [Nat.zero_add,HPO.out] at this
      exact this
     have ht := c_take (ops.drop k) A12 c12 l _ d1 d2 _ PL.fold p _ ws H6.out.fat hfp hownT (fun o ho _ => by have := (HOKD.out o ho).size;unfold Small;omega) (by rw [HRL.out];omega)
     rw [HRL.out] at ht
     have HT := Lib.hid ht
     clear ht hownT hfp hws hlen k5e f5e
     refine HT.out.mono ?_
     rintro e wt ⟨rfl,hft,_,hkt⟩
     have hz := H6.out.took hft hkt
     obtain ⟨LT,hLT⟩ : ∃ LT : LV,{ PL with ops := PL.ops ++ ops.drop k } = LT := ⟨_,rfl⟩
     have hfold : PL.fold.take (ops.drop k) = LT.fold := by rw [← hLT];unfold LV.fold FV.take;simp
     rw [hfold,hLT] at hz
     obtain ⟨FT,hFT⟩ : ∃ FT,Foot l d1 d2 (.slice A5 (PL.ops.length + (ops.length - k)) c5) lv (fun k => S k ∨ (w11.heap.size ≤ k ∧ k < w12.heap.size)) = FT := ⟨_,rfl⟩
     have HATT : Hid (LAt wt l LT FT) := Lib.hid ⟨_,_,_,_,_,hz,fun i => by rw [← hFT]⟩
     have HKALL : Hid (Kp F11 w11 wt) := Lib.hid ((HK12.out.any.trans HK6.out (fun i _ e => (HF11.out i).2 (by
      rcases e with e | e
      · exact .inl (.inl e)
      · exact .inr (.inl e)))).trans hkt (fun i _ e => (HF11.out i).2 (.inl e)))
     have HD12 := Lib.hid (HD11.out.kept HKALL.out (fun e => by
      rcases HU11.out.foot _ e with h | h
      · exact HFX.out.2 h
      · have h1 := HZC.out;have h2 := HYZ.out;have h3 := HYX.out;omega))
     have HY12 := Lib.hid (HY11.out.kept HKALL.out (fun e => by
      rcases HU11.out.foot _ e with h | h
      · have h1 := HFLT.out _ h;have h2 := HX.out;have h3 := HYX.out;omega
      · have h1 := HZC.out;have h2 := HYZ.out;omega))
     have HK13 : Hid (Kp F w wt) := Lib.hid (HK11.out.trans HKALL.out (fun i hi e => by
      rcases HU11.out.foot _ e with h | h
      · exact h
      · have h1 := HZC.out;have h2 := HYZ.out;have h3 := HYX.out;have h4 := HX.out;omega))
     have hF11y : ∀ i,F11 i → F i ∨ y < i := fun i hi => by
      rcases HU11.out.foot i hi with h | h
      · exact .inl h
      · have h1 := HZC.out;have h2 := HYZ.out;exact .inr (by omega)
     have hyw11 : y < w11.heap.size := by have h1 := HZC.out;have h2 := HYZ.out;have h3 := HCW.out;omega
     have HUT : Hid (∀ i,FT i → F i ∨ y < i) := Lib.hid (fun i hi => by
      rw [← hFT] at hi
      rcases hi with hi | hi | hi | hi
      · exact hF11y i ((HF11.out i).2 (.inl hi))
      · have hb5 := HB5.out
        rcases hb5 with h | h
        · exact hF11y i ((HF11.out i).2 (.inr (.inl (h ▸ hi))))
        · rw [h] at hi
          injection hi with hi
          have := HK12.out.size
          exact .inr (by omega)
      · exact hF11y i ((HF11.out i).2 (.inr (.inr (.inl hi))))
      · rcases hi with hi | hi
        · exact hF11y i ((HF11.out i).2 (.inr (.inr (.inr hi))))
        · exact .inr (by omega))
     have HPT : Hid (P = ((0,la,le),{ LT with settled := max LT.settled la })) := Lib.hid (by
      have := HP5.out
      rw [HPLE.out] at this
      rw [← this,← hLT])
     clear hFT hLT hz hfold hft hkt hF11y hyw11 HP5 HF11 HU11 HD11 HY11 HK11 HKALL HT HB5 HOKD HRL HPLE HPO HPOPS HSRC HFT HNEW HOB HOPL hso HIN H6 HK6 HK12 HA11
     go_upto_region 22 with fail
     obtain ⟨sd,hsd⟩ : ∃ sd,(LT).settled = sd := ⟨_,rfl⟩
     obtain ⟨_,_,_,_,_,hblkT⟩ := HATT.out.blk
     have k8 := Blk.cell hblkT (i := 8) rfl
     rw [hsd] at k8
     have f8 := Blk.fr hblkT 8
     have t0 : wt.cell? ⟨y,0,none⟩ = some (.int .i64 la) := Blk.cell HY12.out rfl
     have t1 : wt.cell? ⟨y,1,none⟩ = some (.int .i64 le) := Blk.cell HY12.out rfl
     have hfd : ∀ k,FT k → k ≠ x + 1 ∧ k ≠ y ∧ (F k ∨ w.heap.size ≤ k) := fun k hk => by
      have h1 := HX.out
      have h2 := HYX.out
      rcases HUT.out k hk with h | h
      · have := HFLT.out k h;exact ⟨by omega,by omega,.inl h⟩
      · exact ⟨by omega,by omega,.inr (by omega)⟩
     have HFD := Lib.hid hfd
     obtain ⟨M,hM⟩ : ∃ M,(if sd < la then la else sd) = M := ⟨_,rfl⟩
     have hMm : max (LT).settled la = M := by rw [hsd,← hM];split <;> omega
     have HMM := Lib.hid hMm
     clear hfd hMm hblkT
     refine Reg.wp_region_plan [⟨0,false,[]⟩,⟨1,false,[]⟩,⟨2,false,[]⟩,⟨3,false,[]⟩,⟨4,false,[]⟩,⟨5,false,[]⟩,⟨6,false,[]⟩,⟨7,false,[]⟩,⟨8,false,[]⟩,⟨9,false,[]⟩,⟨10,true,[]⟩] rfl (by kernel_rfl) ?_
     repeat (first | (refine Reg.look rfl rfl rfl (by go_simp;rfl) rfl ?_;go_simp) | (refine Reg.skip rfl rfl rfl ?_;go_simp))
     try rw [hM]
     refine Reg.act rfl ?_
     go_wp2_with fail
     (refine ⟨?anew,?_⟩;case anew => ((repeat (refine Reg.anew_cons rfl rfl (fun _ => by go_simp) ?_));exact Reg.anew_nil))
     repeat (first | (refine Reg.look rfl rfl rfl (by go_simp;rfl) rfl ?_;go_simp) | (refine Reg.skip rfl rfl rfl ?_;go_simp))
     (refine Reg.done ?_;simp only [Exit.then])
     have hks : Kp (· = l) wt (wt.setCell ⟨l,8,none⟩ (.int .i64 M)).drew := ((Kp.refl (· = l) wt).setCell (p := ⟨l,8,none⟩) (fun _ => rfl) _).drew
     have hAz := (HATT.out.settled M).keptNo ((Kp.refl No _).drew)
     have hDz := HD12.out.kept hks (fun e => hxl2 e.symm)
     have hYz := HY12.out.kept hks (fun e => (HFD.out l HATT.out.self).2.1 e.symm)
     have hKz : Kp F w (wt.setCell ⟨l,8,none⟩ (.int .i64 M)).drew := HK13.out.trans hks (fun i hi e => by
      rcases (HFD.out l HATT.out.self).2.2 with h | h
      · rw [e];exact h
      · omega)
     obtain ⟨wz,hwz⟩ : ∃ wz,(wt.setCell ⟨l,8,none⟩ (.int .i64 M)).drew = wz := ⟨_,rfl⟩
     rw [hwz] at hAz hDz hYz hKz
     rw [hwz]
     have HAZ := Lib.hid hAz
     have HDZ := Lib.hid hDz
     have HKZ := Lib.hid hKz
     clear hwz hks hAz hKz k8 f8 t0 t1 hM hsd
     have t0 : wz.cell? ⟨y,0,none⟩ = some (.int .i64 la) := Blk.cell hYz rfl
     have t1 : wz.cell? ⟨y,1,none⟩ = some (.int .i64 le) := Blk.cell hYz rfl
     have u0 : wz.cell? ⟨x + 1,0,none⟩ = some _ := Blk.cell hDz rfl
     have u1 : wz.cell? ⟨x + 1,1,none⟩ = some _ := Blk.cell hDz rfl
     have u2 : wz.cell? ⟨x + 1,2,none⟩ = some _ := Blk.cell hDz rfl
     have g0 := Blk.fr hDz 0
     have g1 := Blk.fr hDz 1
     have g2 := Blk.fr hDz 2
     clear hDz hYz
     go_wp2_with fail
     clear g0 g1 g2 u0 u1 u2 t0 t1
     obtain ⟨hkf,hbf⟩ := done_stored HDZ.out (.int .i64 0) (.int .i64 la) (.int .i64 le)
     have hwx : w.heap.size = x := HX.out
     have hAf := HAZ.out.kept hkf (fun k hk e => (HFD.out k hk).1 e)
     have hKf := HKZ.out.trans hkf (fun i hi e => absurd hi (by omega))
     have hF' : ∀ k,FT k → F k ∨ w.heap.size ≤ k := fun k hk => (HFD.out k hk).2.2
     have hPe : P = ((0,la,le),{ LT with settled := M }) := by rw [HPT.out,HMM.out]
     subst hPe
     exact bodyPost_ret (results_cell_row rfl _ _ (x + 1) _ _ _ _ rfl hbf Tryz.underlying44 rfl (by kernel_rfl)) rfl ⟨rfl,FT,hAf,hKf,hF'⟩
end Go.Proofs.YtjlbacfedfkilaaGreat
