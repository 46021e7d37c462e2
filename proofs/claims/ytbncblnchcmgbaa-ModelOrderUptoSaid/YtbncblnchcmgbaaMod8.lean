/-
  model.New, model.denied, (*Model).Asked; a model that is none.
-/
import Derived.Test.YtbncblnchcmgbaaMod7
namespace Go.Proofs.Ytbncblnchcmgbaa
open Go.RowKit Go.ChangeShapes Go.WideShapes Go.ChangeAt

def askV (a : AskL) : Value := .agg #[.int .i64 a.kind, .int .i64 a.client, .int .i64 a.seq, .string a.name, .string a.data, .int .i64 a.mode, .int .i64 a.lag]
set_option maxRecDepth 100000 in
theorem m_denied (b : Bool) (w : World) : Calls Try.prog 57 #[.bool b] w fun e w' => e = .returned (.int .i64 (if b = true then 0 else 200)) ∧ Kp No w w' := by
  cases b
  · go_enter Try.func57, Try.ntmps57
    go_wp2_with fail
    go_ret
    exact ⟨rfl, Kp.refl _ _⟩
  · go_enter Try.func57, Try.ntmps57
    go_wp2_with fail
    go_ret
    exact ⟨rfl, Kp.refl _ _⟩
set_option maxRecDepth 100000 in
theorem m_new (w : World) : Calls Try.prog 16 #[] w fun e w' => ∃ m F, e = .returned (.pointer (some ⟨m, 0, none⟩)) ∧ MAt w' m ⟨[], []⟩ F ∧ (∀ k, F k → w.heap.size ≤ k) ∧ Kp No w w' := by
  obtain ⟨b, hb⟩ : ∃ v, w.heap.size = v := ⟨_, rfl⟩
  obtain ⟨w1, hw1⟩ : ∃ v, w.alloc (.map #[] 0) = v := ⟨_, rfl⟩
  have hmk : (Instr.makeMap 111 none).run Try.prog w = .ok (.map (some b)) w1 := by rw [← hw1, ← hb]; rfl
  have hk1 : Kp No w w1 := by rw [← hw1]; exact (Kp.refl _ _).alloc _
  have hmp : MapRp Rp.line w1 No b spotV [] := by rw [← hw1, ← hb]; exact MapRp.made w _
  obtain ⟨m, hm⟩ : ∃ v, w1.heap.size = v := ⟨_, rfl⟩
  obtain ⟨w2, hw2⟩ : ∃ v, w1.alloc (.cells #[.map (some b), .slice none 0 0] 113) = v := ⟨_, rfl⟩
  have hk2 : Kp No w1 w2 := by rw [← hw2]; exact (Kp.refl _ _).alloc _
  have hbl : Blk w2 m 113 [.map (some b), .slice none 0 0] := by rw [← hw2, ← hm]; exact Blk.new w1 _ _
  have hbm : b < m := by rw [← hm]; exact hmp.lt
  have HMA : Hid (MAt w2 m ⟨[], []⟩ (MFoot m b (.slice none 0 0) No)) := Lib.hid ⟨b, .slice none 0 0, No, ⟨hbl, hmp.keptNo hk2, Own.nil _ _ _ _ _, by omega, fun h => h, fun h => h, by simp [Value.ownBlock], by simp [Value.ownBlock], fun k h => h.elim, fun k h => h.elim⟩, fun k => Iff.rfl⟩
  have HK := Lib.hid (hk1.trans' hk2)
  have HF : Hid (∀ k, MFoot m b (.slice none 0 0) No k → w.heap.size ≤ k) := Lib.hid (by
    rintro k (h | h | h | h)
    · omega
    · omega
    · simp [Value.ownBlock] at h
    · exact h.elim)
  clear hw1 hk1 hmp hk2 hbl hbm
  go_enter Try.func16, Try.ntmps16
  go_wp2_with fail
  go_ret
  exact ⟨m, _, rfl, HMA.out, HF.out, HK.out⟩
set_option maxRecDepth 100000 in
theorem m_asked_nil (a : AskL) (w : World) : Calls Try.prog 23 #[.pointer none, askV a] w fun e w' => e = .returned (.tuple #[]) ∧ Kp No w w' := by
  unfold askV
  have HK : Hid (Kp No w (w.alloc (.cells #[.int .i64 a.kind, .int .i64 a.client, .int .i64 a.seq, .string a.name, .string a.data, .int .i64 a.mode, .int .i64 a.lag] 52))) := Lib.hid ((Kp.refl _ _).alloc _)
  go_enter Try.func23, Try.ntmps23
  go_wp2_with fail
  go_end0
  exact ⟨rfl, HK.out⟩
set_option maxRecDepth 100000 in
theorem m_copy_nil (w : World) : Calls Try.prog 27 #[.pointer none] w fun e w' => e = .returned (.pointer none) ∧ w' = w := by
  go_enter Try.func27, Try.ntmps27
  go_wp2_with fail
  go_ret
  exact ⟨rfl, rfl⟩
theorem el_ask : Elem Try.prog 72 52 7 72 := Elem.of Try.underlying72 (z := .agg #[.int .i64 0, .int .i64 0, .int .i64 0, .string ByteArray.empty, .string ByteArray.empty, .int .i64 0, .int .i64 0]) (by kernel_rfl) rfl (by decide)
theorem Rp.ask_one {w : World} : ∀ cs a S', Rp.ask.R w S' cs a → ∀ u ∈ cs, u.oneCell' = true := by
  rintro cs a S' ⟨rfl, _⟩ u hu
  simp only [AskL.cells, List.mem_cons, List.not_mem_nil, or_false] at hu
  rcases hu with rfl | rfl | rfl | rfl | rfl | rfl | rfl <;> rfl
set_option maxRecDepth 100000 in
theorem m_live_nil (p : Int × Int) (w : World) : Calls Try.prog 58 #[.pointer none, spotV p] w fun e w' => ∃ b, e = .returned (.tuple #[.map (some b), .bool false]) ∧ w.heap.size ≤ b ∧ MapRp Rp.opl w' No b Value.string [] ∧ Kp No w w' := by
  obtain ⟨wa, hwa⟩ : ∃ v, w.alloc (.cells #[.int .i64 p.1, .int .i64 p.2] 54) = v := ⟨_, rfl⟩
  have hka : Kp No w wa := by rw [← hwa]; exact (Kp.refl _ _).alloc _
  obtain ⟨at_, hat⟩ : ∃ v, w.heap.size = v := ⟨_, rfl⟩
  have hba : Blk wa at_ 54 [.int .i64 p.1, .int .i64 p.2] := by rw [← hwa, ← hat]; exact Blk.new w _ _
  have s0 : wa.cell? ⟨at_, 0, none⟩ = some _ := Blk.cell hba rfl
  have s1 : wa.cell? ⟨at_, 1, none⟩ = some _ := Blk.cell hba rfl
  have hpa := m_path_nil p wa
  unfold spotV at hpa ⊢
  have HPA := Lib.hid hpa
  have HKA := Lib.hid hka
  clear hpa hka hba
  go_enter Try.func58, Try.ntmps58
  go_wp2_with fail
  clear hwa s0 s1 hat
  refine HPA.out.mono ?_
  rintro e w1 ⟨rfl, hk1⟩
  obtain ⟨b, hb⟩ : ∃ v, w1.heap.size = v := ⟨_, rfl⟩
  obtain ⟨w2, hw2⟩ : ∃ v, w1.alloc (.map #[] 0) = v := ⟨_, rfl⟩
  have hk2 : Kp No w1 w2 := by rw [← hw2]; exact (Kp.refl _ _).alloc _
  have HMP : Hid (MapRp Rp.opl w2 No b Value.string []) := Lib.hid (by rw [← hw2, ← hb]; exact MapRp.made w1 _)
  have HK2 := Lib.hid ((HKA.out.trans' hk1).trans' hk2)
  have HBW : Hid (w.heap.size ≤ b) := Lib.hid (by rw [← hb]; exact (HKA.out.trans' hk1).size)
  have hmk : (Instr.makeMap 129 none).run Try.prog w1 = .ok (.map (some b)) w2 := by rw [← hw2, ← hb]; rfl
  clear hk1 hk2 HPA HKA hw2 hb
  go_wp2_with fail
  clear hmk
  go_loopw [20] (fun iv wr => iv = .int .i64 0 ∧ wr = w2) (fun _ _ => 0)
  case atStart => exact ⟨rfl, rfl⟩
  case round =>
    obtain ⟨rfl, rfl⟩ := hrel
    go_wp2_with fail
    exact bodyPost_ret (results_tmp2 rfl _ _ _) rfl ⟨b, rfl, HBW.out, HMP.out, HK2.out⟩
set_option maxRecDepth 100000 in
theorem m_names_nil (p : Int × Int) (w : World) : Calls Try.prog 29 #[.pointer none, spotV p] w fun e w' => ∃ A c, e = .returned (.tuple #[.slice A 0 c, .bool false]) ∧ Kp No w w' := by
  obtain ⟨wa, hwa⟩ : ∃ v, w.alloc (.cells #[.int .i64 p.1, .int .i64 p.2] 54) = v := ⟨_, rfl⟩
  have hka : Kp No w wa := by rw [← hwa]; exact (Kp.refl _ _).alloc _
  obtain ⟨at_, hat⟩ : ∃ v, w.heap.size = v := ⟨_, rfl⟩
  have hba : Blk wa at_ 54 [.int .i64 p.1, .int .i64 p.2] := by rw [← hwa, ← hat]; exact Blk.new w _ _
  have s0 : wa.cell? ⟨at_, 0, none⟩ = some _ := Blk.cell hba rfl
  have s1 : wa.cell? ⟨at_, 1, none⟩ = some _ := Blk.cell hba rfl
  have hlv := m_live_nil p wa
  unfold spotV at hlv ⊢
  have HLV := Lib.hid hlv
  have HKA := Lib.hid hka
  clear hlv hka hba
  go_enter Try.func29, Try.ntmps29
  go_wp2_with fail
  clear hwa s0 s1 hat
  refine HLV.out.mono ?_
  rintro e w1 ⟨b, rfl, hbw, hmp, hk1⟩
  obtain ⟨lv, hm, hkey, _⟩ := hmp
  have hlv0 : lv = [] := by
    have := congrArg List.length hkey
    simp only [List.length_map, List.length_nil] at this
    exact List.eq_nil_of_length_eq_zero this
  subst hlv0
  have HK1 := Lib.hid (HKA.out.trans' hk1)
  have HKS := Lib.hid (m_keys_Op b w1)
  have hso := m_sorted_Op b [] w1 hm (fun q hq => by simp at hq) (by simp)
  simp only [List.map_nil, sortedN_length, List.length_nil] at hso
  have HSO := Lib.hid hso
  clear hbw hm hkey hk1 HLV HKA hso
  go_wp2_with fail
  refine HKS.out.mono ?_
  rintro e w2 ⟨rfl, rfl⟩
  go_wp2_with fail
  refine HSO.out.mono ?_
  rintro e w3 ⟨A, c, rfl, hown, hk3⟩
  have HK3 := Lib.hid hk3
  clear hown hk3
  go_wp2_with fail
  exact bodyPost_ret (results_tmp2 rfl _ _ _) rfl ⟨A, c, rfl, HK1.out.trans' HK3.out⟩
theorem run_load_ask {w : World} {y : Nat} {a : AskL} (h : Blk w y 52 [.int .i64 a.kind, .int .i64 a.client, .int .i64 a.seq, .string a.name, .string a.data, .int .i64 a.mode, .int .i64 a.lag]) :
    (Instr.loadAt 52 (.pointer (some ⟨y, 0, none⟩))).run Try.prog w = .ok (askV a) w := by
  have y0 : w.cell? ⟨y, 0, none⟩ = some _ := Blk.cell h rfl
  have y1 : w.cell? ⟨y, 1, none⟩ = some _ := Blk.cell h rfl
  have y2 : w.cell? ⟨y, 2, none⟩ = some _ := Blk.cell h rfl
  have y3 : w.cell? ⟨y, 3, none⟩ = some _ := Blk.cell h rfl
  have y4 : w.cell? ⟨y, 4, none⟩ = some _ := Blk.cell h rfl
  have y5 : w.cell? ⟨y, 5, none⟩ = some _ := Blk.cell h rfl
  have y6 : w.cell? ⟨y, 6, none⟩ = some _ := Blk.cell h rfl
  clear h
  unfold askV
  go_simp
theorem ask_lit (w : World) (a : AskL) (S : Nat → Prop) (hS : S w.heap.size) (hn : a.nums) :
    Rp.ask.slice.R (w.alloc (.cells #[.int .i64 a.kind, .int .i64 a.client, .int .i64 a.seq, .string a.name, .string a.data, .int .i64 a.mode, .int .i64 a.lag] 52)) S [.slice (some ⟨w.heap.size, 0, none⟩) 1 1] [a] := by
  refine ⟨_, _, rfl, Nat.le_refl _, by unfold maxLen; simp, fun _ => ⟨_, rfl, hS, fun i b hi => ?_⟩⟩
  obtain rfl : i = 0 := by have := (List.getElem?_eq_some_iff.1 hi).1; simp at this; exact this
  injection hi with hi
  subst hi
  refine ⟨a.cells, fun j u hu => ?_, rfl, hn⟩
  rw [Addr.add_lit, Addr.add_lit]
  have hb : Blk (w.alloc (.cells #[.int .i64 a.kind, .int .i64 a.client, .int .i64 a.seq, .string a.name, .string a.data, .int .i64 a.mode, .int .i64 a.lag] 52)) w.heap.size 52 a.cells := Blk.new w _ _
  have h2 := hb.cell hu
  simpa using h2
set_option maxRecDepth 100000 in
set_option maxHeartbeats 4000000 in
theorem m_asked (a : AskL) (m : Nat) (M : MV) (F : Nat → Prop) (w : World) (hM : MAt w m M F) (hn : a.nums) (hl : M.asks.length ≤ 1000000) :
    Calls Try.prog 23 #[.pointer (some ⟨m, 0, none⟩), askV a] w fun e w' => e = .returned (.tuple #[]) ∧ ∃ F', MAt w' m (if a.kind = 1 then { M with asks := M.asks ++ [a] } else M) F' ∧ Upd F w w' F' := by
  obtain ⟨y, hy⟩ : ∃ v, w.heap.size = v := ⟨_, rfl⟩
  obtain ⟨wa, hwa⟩ : ∃ v, w.alloc (.cells #[.int .i64 a.kind, .int .i64 a.client, .int .i64 a.seq, .string a.name, .string a.data, .int .i64 a.mode, .int .i64 a.lag] 52) = v := ⟨_, rfl⟩
  have hka : Kp No w wa := by rw [← hwa]; exact (Kp.refl _ _).alloc _
  have hba : Blk wa y 52 [.int .i64 a.kind, .int .i64 a.client, .int .i64 a.seq, .string a.name, .string a.data, .int .i64 a.mode, .int .i64 a.lag] := by rw [← hwa, ← hy]; exact Blk.new w _ _
  have y0 : wa.cell? ⟨y, 0, none⟩ = some _ := Blk.cell hba rfl
  have HMA := Lib.hid (hM.keptNo hka)
  have HMW : Hid (∀ k, F k → k < w.heap.size) := Lib.hid (fun k hk => hM.lt hk)
  have HKA := Lib.hid hka
  have HBA := Lib.hid hba
  have HYW : Hid (w.heap.size ≤ y) := Lib.hid (Nat.le_of_eq hy)
  by_cases h1 : a.kind = 1
  case neg =>
    have hkb : (a.kind == 1) = false := beq_eq_false_iff_ne.2 h1
    rw [if_neg h1]
    unfold askV
    clear hka hba h1 hM
    go_enter Try.func23, Try.ntmps23
    go_wp2_with fail
    go_end0
    exact ⟨rfl, F, HMA.out, HKA.out.any, fun k hk => .inl hk⟩
  have hkb : (a.kind == 1) = true := beq_iff_eq.2 h1
  rw [if_pos h1]
  obtain ⟨b, av, S, hin, hft⟩ := HMA.out
  obtain ⟨Av, cv, hav⟩ := hin.ask.shape
  obtain ⟨wd, hwd⟩ : ∃ v, wa.drew = v := ⟨_, rfl⟩
  have hkd : Kp No wa wd := by rw [← hwd]; exact (Kp.refl _ _).drew
  have hbd := hba.kept hkd (fun z => z)
  have hmd := hin.blk.kept hkd (fun z => z)
  obtain ⟨g1, hg1⟩ : ∃ v, wd.heap.size = v := ⟨_, rfl⟩
  obtain ⟨w3, hw3⟩ : ∃ v, wd.alloc (.cells #[.int .i64 a.kind, .int .i64 a.client, .int .i64 a.seq, .string a.name, .string a.data, .int .i64 a.mode, .int .i64 a.lag] 52) = v := ⟨_, rfl⟩
  have hk3 : Kp No wd w3 := by rw [← hw3]; exact (Kp.refl _ _).alloc _
  have hin3 : MIn w3 m b av S M := hin.kept (hkd.trans' hk3) (fun k _ h => h)
  have hsrc := ask_lit wd a (fun k => k = g1) hg1 hn
  rw [hg1, hw3] at hsrc
  have hgl : ∀ k, MFoot m b av S k → k < g1 := fun k hk => by rw [← hg1]; exact Nat.lt_of_lt_of_le (hin.lt hk) hkd.size
  have HIN3 := Lib.hid hin3
  have HSRC := Lib.hid hsrc
  have HGL := Lib.hid hgl
  have HFT := Lib.hid hft
  have HK3 := Lib.hid ((HKA.out.trans' hkd).trans' hk3)
  have HLM := Lib.hid hl
  have k1 : wd.cell? ⟨m, 1, none⟩ = some av := Blk.cell hmd rfl
  have x0 : wd.cell? ⟨y, 0, none⟩ = some _ := Blk.cell hbd rfl
  have x1 : wd.cell? ⟨y, 1, none⟩ = some _ := Blk.cell hbd rfl
  have x2 : wd.cell? ⟨y, 2, none⟩ = some _ := Blk.cell hbd rfl
  have x3 : wd.cell? ⟨y, 3, none⟩ = some _ := Blk.cell hbd rfl
  have x4 : wd.cell? ⟨y, 4, none⟩ = some _ := Blk.cell hbd rfl
  have x5 : wd.cell? ⟨y, 5, none⟩ = some _ := Blk.cell hbd rfl
  have x6 : wd.cell? ⟨y, 6, none⟩ = some _ := Blk.cell hbd rfl
  unfold askV
  subst hav
  clear hka hba hkd hbd hmd hk3 hin3 hsrc hgl hin hft hM hn hl h1
  go_enter Try.func23, Try.ntmps23
  go_wp2_with fail
  clear hwa hy y0
  refine Reg.wp_region_plan [⟨0, false, []⟩, ⟨1, false, []⟩, ⟨2, false, []⟩, ⟨3, false, []⟩, ⟨4, false, []⟩, ⟨5, false, []⟩, ⟨6, true, [2, 3, 4]⟩, ⟨7, true, []⟩, ⟨8, false, []⟩, ⟨9, false, []⟩, ⟨10, true, []⟩] rfl (by kernel_rfl) ?_
  rw [hwd]
  clear hwd
  repeat (first | (refine Reg.look rfl rfl rfl (by go_simp; rfl) rfl ?_; go_simp) | (refine Reg.skip rfl rfl rfl ?_; go_simp))
  refine Reg.act rfl ?_
  go_wp2_with fail
  clear k1 x0 x1 x2 x3 x4 x5 x6 hg1 hw3
  have k1 : w3.cell? ⟨m, 1, none⟩ = some _ := Blk.cell HIN3.out.blk rfl
  (refine ⟨?anew, ?_⟩; case anew => ((repeat (refine Reg.anew_cons rfl rfl (fun _ => by go_simp) ?_)); exact Reg.anew_nil))
  repeat (first | (refine Reg.look rfl rfl rfl (by go_simp; rfl) rfl ?_; go_simp) | (refine Reg.skip rfl rfl rfl ?_; go_simp))
  refine Reg.act rfl ?_
  refine wpList_append_rp (E := Rp.ask) rfl _ (.tmp 15) (.tmp 17) 72 rfl 0 52 72 el_ask (fun k => k = g1) (.slice Av M.asks.length cv) M.asks rfl (HIN3.out.ask.mono (Nat.le_refl _) (fun _ h => h.elim)) (some ⟨g1, 0, none⟩) 1 (fun k => k = g1) [a] rfl HSRC.out Rp.ask_one ?hcap ?hby (Nat.zero_le _) (fun _ h => h) ?hsv ?_
  case hcap => have := HLM.out; simp [maxLen]; omega
  case hby => have := HLM.out; simp; omega
  case hsv => exact fun k hk e => by have := HGL.out k (.inr (.inr (.inl hk))); omega
  intro av2 w4 hown hgr hbl
  have hk4 : Kp (fun k => (Value.slice Av M.asks.length cv).ownBlock = some k) w3 w4 := (Kp.refl _ _).grown hgr (fun g hg _ => hg)
  have hin := HIN3.out
  have hbm := hin.blk.kept hk4 hin.am
  have k1' : w4.cell? ⟨m, 1, none⟩ = some _ := Blk.cell hbm rfl
  have f1 := Blk.fr hbm 1
  have hk5 : Kp (· = m) w4 (w4.setCell ⟨m, 1, none⟩ av2) := (Kp.refl (· = m) w4).setCell (p := ⟨m, 1, none⟩) (fun _ => rfl) _
  have hg3 : ∀ k, MFoot m b (.slice Av M.asks.length cv) S k → k < w3.heap.size := fun k hk => hin.lt hk
  have hown2 : Own Rp.ask w4 No 0 52 av2 (M.asks ++ [a]) := by
    obtain ⟨xs, q1, q2, q3⟩ := hown
    exact ⟨xs, q1, q2, fun i a ha => q3 i a ha⟩
  have hob : ∀ k, av2.ownBlock = some k → (Value.slice Av M.asks.length cv).ownBlock = some k ∨ k = w3.heap.size := fun k hk => by
    rcases hbl with h | h
    · exact .inl (h ▸ hk)
    · rw [h] at hk; injection hk with hk; exact .inr hk.symm
  have hmm : m ≠ w3.heap.size := by have := hg3 m (.inl rfl); omega
  have hmb : b ≠ w3.heap.size := by have := hg3 b (.inr (.inl rfl)); omega
  have HFIN : Hid (MIn (w4.setCell ⟨m, 1, none⟩ av2) m b av2 S { M with asks := M.asks ++ [a] }) := Lib.hid
    ⟨Blk.set hbm 1 av2, (hin.map.kept hk4 hin.ab (fun k hs _ => hin.sa k hs)).kept hk5 (fun e => hin.mb e.symm) (fun k hs _ e => hin.sm (e ▸ hs)), hown2.kept hk5 (fun _ hs _ _ => hs) (fun k hv e => by
        rcases hob k hv with h | h
        · exact hin.am (e ▸ h)
        · omega), hin.mb, hin.sm, hin.sb, fun h => (hob m h).elim hin.am hmm, fun h => (hob b h).elim hin.ab hmb, fun k hs h => (hob k h).elim (hin.sa k hs) (fun e => by have := hin.hi k hs; omega), fun k hs => Nat.lt_of_lt_of_le (hin.hi k hs) (Nat.le_trans hk4.size hk5.size)⟩
  have HUP : Hid (Upd F w (w4.setCell ⟨m, 1, none⟩ av2) (MFoot m b av2 S)) := Lib.hid ⟨(HK3.out.any.trans hk4 (fun k _ h => (HFT.out k).2 (.inr (.inr (.inl h))))).trans hk5 (fun k _ h => (HFT.out k).2 (.inl h)), fun k hk => by
    rcases hk with h | h | h | h
    · exact .inl ((HFT.out k).2 (.inl h))
    · exact .inl ((HFT.out k).2 (.inr (.inl h)))
    · rcases hob k h with h | h
      · exact .inl ((HFT.out k).2 (.inr (.inr (.inl h))))
      · exact .inr (by have := HK3.out.size; omega)
    · exact .inl ((HFT.out k).2 (.inr (.inr (.inr h))))⟩
  obtain ⟨A2, c2, hsh⟩ := hown.shape
  obtain ⟨n2, hn2⟩ : ∃ v, (M.asks ++ [a]).length = v := ⟨_, rfl⟩
  rw [hn2] at hsh
  clear hown hgr hbl hk4 hin hbm hk5 hg3 hown2 hob hmm hmb k1 hn2
  subst hsh
  go_wp2_with fail
  (refine ⟨?anew, ?_⟩; case anew => ((repeat (refine Reg.anew_cons rfl rfl (fun _ => by go_simp) ?_)); exact Reg.anew_nil))
  repeat (first | (refine Reg.look rfl rfl rfl (by go_simp; rfl) rfl ?_; go_simp) | (refine Reg.skip rfl rfl rfl ?_; go_simp))
  refine Reg.act rfl ?_
  go_wp2_with fail
  (refine ⟨?anew, ?_⟩; case anew => ((repeat (refine Reg.anew_cons rfl rfl (fun _ => by go_simp) ?_)); exact Reg.anew_nil))
  repeat (first | (refine Reg.look rfl rfl rfl (by go_simp; rfl) rfl ?_; go_simp) | (refine Reg.skip rfl rfl rfl ?_; go_simp))
  (refine Reg.done ?_; simp only [Exit.then])
  go_wp2_with fail
  go_end0
  exact ⟨rfl, _, ⟨b, _, S, HFIN.out, fun k => Iff.rfl⟩, HUP.out⟩
end Go.Proofs.Ytbncblnchcmgbaa
