/-
  Put together: Mod8, Mod9.
-/
import Derived.Test.YtamfgmlhopjppaaGG
namespace Go.Proofs.Ytamfgmlhopjppaa
section
open Go.RowKit Go.ChangeShapes Go.WideShapes Go.ChangeAt

def askV (a : AskL) : Value := .agg #[.int .i64 a.kind, .int .i64 a.client, .int .i64 a.seq, .string a.name, .string a.data, .int .i64 a.mode, .int .i64 a.lag]
set_option maxRecDepth 100000 in
theorem m_denied (b : Bool) (w : World) : Calls Try.prog 32 #[.bool b] w fun e w' => e = .returned (.int .i64 (if b = true then 0 else 200)) ∧ Kp No w w' := by
  cases b
  · go_enter Try.func32, Try.ntmps32
    go_wp2_with fail
    go_ret
    exact ⟨rfl, Kp.refl _ _⟩
  · go_enter Try.func32, Try.ntmps32
    go_wp2_with fail
    go_ret
    exact ⟨rfl, Kp.refl _ _⟩
set_option maxRecDepth 100000 in
theorem m_new (w : World) : Calls Try.prog 6 #[] w fun e w' => ∃ m F, e = .returned (.pointer (some ⟨m, 0, none⟩)) ∧ MAt w' m ⟨[], []⟩ F ∧ (∀ k, F k → w.heap.size ≤ k) ∧ Kp No w w' := by
  obtain ⟨b, hb⟩ : ∃ v, w.heap.size = v := ⟨_, rfl⟩
  obtain ⟨w1, hw1⟩ : ∃ v, w.alloc (.map #[] 0) = v := ⟨_, rfl⟩
  have hmk : (Instr.makeMap 64 none).run Try.prog w = .ok (.map (some b)) w1 := by rw [← hw1, ← hb]; rfl
  have hk1 : Kp No w w1 := by rw [← hw1]; exact (Kp.refl _ _).alloc _
  have hmp : MapRp Rp.line w1 No b spotV [] := by rw [← hw1, ← hb]; exact MapRp.made w _
  obtain ⟨m, hm⟩ : ∃ v, w1.heap.size = v := ⟨_, rfl⟩
  obtain ⟨w2, hw2⟩ : ∃ v, w1.alloc (.cells #[.map (some b), .slice none 0 0] 66) = v := ⟨_, rfl⟩
  have hk2 : Kp No w1 w2 := by rw [← hw2]; exact (Kp.refl _ _).alloc _
  have hbl : Blk w2 m 66 [.map (some b), .slice none 0 0] := by rw [← hw2, ← hm]; exact Blk.new w1 _ _
  have hbm : b < m := by rw [← hm]; exact hmp.lt
  have HMA : Hid (MAt w2 m ⟨[], []⟩ (MFoot m b (.slice none 0 0) No)) := Lib.hid ⟨b, .slice none 0 0, No, ⟨hbl, hmp.keptNo hk2, Own.nil _ _ _ _ _, by omega, fun h => h, fun h => h, by simp [Value.ownBlock], by simp [Value.ownBlock], fun k h => h.elim, fun k h => h.elim⟩, fun k => Iff.rfl⟩
  have HK := Lib.hid (hk1.trans' hk2)
  have HF : Hid (∀ k, MFoot m b (.slice none 0 0) No k → w.heap.size ≤ k) := Lib.hid (by
    rintro k (h | h | h | h)
    · omega
    · omega
    · simp [Value.ownBlock] at h
    · exact h.elim)
  clear hw1 hk1 hmp hk2 hbl hbm
  go_enter Try.func6, Try.ntmps6
  go_wp2_with fail
  go_ret
  exact ⟨m, _, rfl, HMA.out, HF.out, HK.out⟩
set_option maxRecDepth 100000 in
theorem m_asked_nil (a : AskL) (w : World) : Calls Try.prog 10 #[.pointer none, askV a] w fun e w' => e = .returned (.tuple #[]) ∧ Kp No w w' := by
  unfold askV
  have HK : Hid (Kp No w (w.alloc (.cells #[.int .i64 a.kind, .int .i64 a.client, .int .i64 a.seq, .string a.name, .string a.data, .int .i64 a.mode, .int .i64 a.lag] 34))) := Lib.hid ((Kp.refl _ _).alloc _)
  go_enter Try.func10, Try.ntmps10
  go_wp2_with fail
  go_end0
  exact ⟨rfl, HK.out⟩
set_option maxRecDepth 100000 in
theorem m_copy_nil (w : World) : Calls Try.prog 14 #[.pointer none] w fun e w' => e = .returned (.pointer none) ∧ w' = w := by
  go_enter Try.func14, Try.ntmps14
  go_wp2_with fail
  go_ret
  exact ⟨rfl, rfl⟩
theorem el_ask : Elem Try.prog 29 34 7 72 := Elem.of Try.underlying29 (z := .agg #[.int .i64 0, .int .i64 0, .int .i64 0, .string ByteArray.empty, .string ByteArray.empty, .int .i64 0, .int .i64 0]) (by kernel_rfl) rfl (by decide)
theorem Rp.ask_one {w : World} : ∀ cs a S', Rp.ask.R w S' cs a → ∀ u ∈ cs, u.oneCell' = true := by
  rintro cs a S' ⟨rfl, _⟩ u hu
  simp only [AskL.cells, List.mem_cons, List.not_mem_nil, or_false] at hu
  rcases hu with rfl | rfl | rfl | rfl | rfl | rfl | rfl <;> rfl
set_option maxRecDepth 100000 in
theorem m_live_nil (p : Int × Int) (w : World) : Calls Try.prog 33 #[.pointer none, spotV p] w fun e w' => ∃ b, e = .returned (.tuple #[.map (some b), .bool false]) ∧ w.heap.size ≤ b ∧ MapRp Rp.opl w' No b Value.string [] ∧ Kp No w w' := by
  obtain ⟨wa, hwa⟩ : ∃ v, w.alloc (.cells #[.int .i64 p.1, .int .i64 p.2] 37) = v := ⟨_, rfl⟩
  have hka : Kp No w wa := by rw [← hwa]; exact (Kp.refl _ _).alloc _
  obtain ⟨at_, hat⟩ : ∃ v, w.heap.size = v := ⟨_, rfl⟩
  have hba : Blk wa at_ 37 [.int .i64 p.1, .int .i64 p.2] := by rw [← hwa, ← hat]; exact Blk.new w _ _
  have s0 : wa.cell? ⟨at_, 0, none⟩ = some _ := Blk.cell hba rfl
  have s1 : wa.cell? ⟨at_, 1, none⟩ = some _ := Blk.cell hba rfl
  have hpa := m_path_nil p wa
  unfold spotV at hpa ⊢
  have HPA := Lib.hid hpa
  have HKA := Lib.hid hka
  clear hpa hka hba
  go_enter Try.func33, Try.ntmps33
  go_wp2_with fail
  clear hwa s0 s1 hat
  refine HPA.out.mono ?_
  rintro e w1 ⟨rfl, hk1⟩
  obtain ⟨b, hb⟩ : ∃ v, w1.heap.size = v := ⟨_, rfl⟩
  obtain ⟨w2, hw2⟩ : ∃ v, w1.alloc (.map #[] 0) = v := ⟨_, rfl⟩
  have hk2 : Kp No w1 w2 := by rw [← hw2]; exact (Kp.refl _ _).alloc _
  have HMP : Hid (MapRp Rp.opl w2 No b Value.string []) := Lib.hid (by rw [← hw2, ← hb]; exact MapRp.made w1 _)
  have HK2 := Lib.hid ((HKA.out.trans' hk1).trans' hk2)
  have HBW : Hid (w.heap.size ≤ b) := Lib.hid (by rw [← hb]; exact (HKA.out.trans' hk1).size)
  have hmk : (Instr.makeMap 80 none).run Try.prog w1 = .ok (.map (some b)) w2 := by rw [← hw2, ← hb]; rfl
  clear hk1 hk2 HPA HKA hw2 hb
  go_wp2_with fail
  clear hmk
  go_loopw [20] (fun iv wr => iv = .int .i64 0 ∧ wr = w2) (fun _ _ => 0)
  case atStart => exact ⟨rfl, rfl⟩
  case round =>
    obtain ⟨rfl, rfl⟩ := hrel
    go_wp2_with fail
    exact bodyPost_ret (results_tmp2 rfl _ _ _) rfl ⟨b, rfl, HBW.out, HMP.out, HK2.out⟩
set_option maxRecDepth 100000 in
theorem m_names_nil (p : Int × Int) (w : World) : Calls Try.prog 18 #[.pointer none, spotV p] w fun e w' => ∃ A c, e = .returned (.tuple #[.slice A 0 c, .bool false]) ∧ Kp No w w' := by
  obtain ⟨wa, hwa⟩ : ∃ v, w.alloc (.cells #[.int .i64 p.1, .int .i64 p.2] 37) = v := ⟨_, rfl⟩
  have hka : Kp No w wa := by rw [← hwa]; exact (Kp.refl _ _).alloc _
  obtain ⟨at_, hat⟩ : ∃ v, w.heap.size = v := ⟨_, rfl⟩
  have hba : Blk wa at_ 37 [.int .i64 p.1, .int .i64 p.2] := by rw [← hwa, ← hat]; exact Blk.new w _ _
  have s0 : wa.cell? ⟨at_, 0, none⟩ = some _ := Blk.cell hba rfl
  have s1 : wa.cell? ⟨at_, 1, none⟩ = some _ := Blk.cell hba rfl
  have hlv := m_live_nil p wa
  unfold spotV at hlv ⊢
  have HLV := Lib.hid hlv
  have HKA := Lib.hid hka
  clear hlv hka hba
  go_enter Try.func18, Try.ntmps18
  go_wp2_with fail
  clear hwa s0 s1 hat
  refine HLV.out.mono ?_
  rintro e w1 ⟨b, rfl, hbw, hmp, hk1⟩
  obtain ⟨lv, hm, hkey, _⟩ := hmp
  have hlv0 : lv = [] := by
    have := congrArg List.length hkey
    simp only [List.length_map, List.length_nil] at this
    exact List.eq_nil_of_length_eq_zero this
  subst hlv0
  have HK1 := Lib.hid (HKA.out.trans' hk1)
  have HKS := Lib.hid (m_keys_Op b w1)
  have hso := m_sorted_Op b [] w1 hm (fun q hq => by simp at hq) (by simp)
  simp only [List.map_nil, sortedN_length, List.length_nil] at hso
  have HSO := Lib.hid hso
  clear hbw hm hkey hk1 HLV HKA hso
  go_wp2_with fail
  refine HKS.out.mono ?_
  rintro e w2 ⟨rfl, rfl⟩
  go_wp2_with fail
  refine HSO.out.mono ?_
  rintro e w3 ⟨A, c, rfl, hown, hk3⟩
  have HK3 := Lib.hid hk3
  clear hown hk3
  go_wp2_with fail
  exact bodyPost_ret (results_tmp2 rfl _ _ _) rfl ⟨A, c, rfl, HK1.out.trans' HK3.out⟩
theorem run_load_ask {w : World} {y : Nat} {a : AskL} (h : Blk w y 34 [.int .i64 a.kind, .int .i64 a.client, .int .i64 a.seq, .string a.name, .string a.data, .int .i64 a.mode, .int .i64 a.lag]) :
    (Instr.loadAt 34 (.pointer (some ⟨y, 0, none⟩))).run Try.prog w = .ok (askV a) w := by
  have y0 : w.cell? ⟨y, 0, none⟩ = some _ := Blk.cell h rfl
  have y1 : w.cell? ⟨y, 1, none⟩ = some _ := Blk.cell h rfl
  have y2 : w.cell? ⟨y, 2, none⟩ = some _ := Blk.cell h rfl
  have y3 : w.cell? ⟨y, 3, none⟩ = some _ := Blk.cell h rfl
  have y4 : w.cell? ⟨y, 4, none⟩ = some _ := Blk.cell h rfl
  have y5 : w.cell? ⟨y, 5, none⟩ = some _ := Blk.cell h rfl
  have y6 : w.cell? ⟨y, 6, none⟩ = some _ := Blk.cell h rfl
  clear h
  unfold askV
  go_simp
theorem ask_lit (w : World) (a : AskL) (S : Nat → Prop) (hS : S w.heap.size) (hn : a.nums) :
    Rp.ask.slice.R (w.alloc (.cells #[.int .i64 a.kind, .int .i64 a.client, .int .i64 a.seq, .string a.name, .string a.data, .int .i64 a.mode, .int .i64 a.lag] 34)) S [.slice (some ⟨w.heap.size, 0, none⟩) 1 1] [a] := by
  refine ⟨_, _, rfl, Nat.le_refl _, by unfold maxLen; simp, fun _ => ⟨_, rfl, hS, fun i b hi => ?_⟩⟩
  obtain rfl : i = 0 := by have := (List.getElem?_eq_some_iff.1 hi).1; simp at this; exact this
  injection hi with hi
  subst hi
  refine ⟨a.cells, fun j u hu => ?_, rfl, hn⟩
  rw [Addr.add_lit, Addr.add_lit]
  have hb : Blk (w.alloc (.cells #[.int .i64 a.kind, .int .i64 a.client, .int .i64 a.seq, .string a.name, .string a.data, .int .i64 a.mode, .int .i64 a.lag] 34)) w.heap.size 34 a.cells := Blk.new w _ _
  have h2 := hb.cell hu
  simpa using h2
set_option maxRecDepth 100000 in
set_option maxHeartbeats 4000000 in
theorem m_asked (a : AskL) (m : Nat) (M : MV) (F : Nat → Prop) (w : World) (hM : MAt w m M F) (hn : a.nums) (hl : M.asks.length ≤ 1000000) :
    Calls Try.prog 10 #[.pointer (some ⟨m, 0, none⟩), askV a] w fun e w' => e = .returned (.tuple #[]) ∧ ∃ F', MAt w' m (if a.kind = 1 then { M with asks := M.asks ++ [a] } else M) F' ∧ Upd F w w' F' := by
  obtain ⟨y, hy⟩ : ∃ v, w.heap.size = v := ⟨_, rfl⟩
  obtain ⟨wa, hwa⟩ : ∃ v, w.alloc (.cells #[.int .i64 a.kind, .int .i64 a.client, .int .i64 a.seq, .string a.name, .string a.data, .int .i64 a.mode, .int .i64 a.lag] 34) = v := ⟨_, rfl⟩
  have hka : Kp No w wa := by rw [← hwa]; exact (Kp.refl _ _).alloc _
  have hba : Blk wa y 34 [.int .i64 a.kind, .int .i64 a.client, .int .i64 a.seq, .string a.name, .string a.data, .int .i64 a.mode, .int .i64 a.lag] := by rw [← hwa, ← hy]; exact Blk.new w _ _
  have y0 : wa.cell? ⟨y, 0, none⟩ = some _ := Blk.cell hba rfl
  have HMA := Lib.hid (hM.keptNo hka)
  have HMW : Hid (∀ k, F k → k < w.heap.size) := Lib.hid (fun k hk => hM.lt hk)
  have HKA := Lib.hid hka
  have HBA := Lib.hid hba
  have HYW : Hid (w.heap.size ≤ y) := Lib.hid (Nat.le_of_eq hy)
  by_cases h1 : a.kind = 1
  case neg =>
    have hkb : (a.kind == 1) = false := beq_eq_false_iff_ne.2 h1
    rw [if_neg h1]
    unfold askV
    clear hka hba h1 hM
    go_enter Try.func10, Try.ntmps10
    go_wp2_with fail
    go_end0
    exact ⟨rfl, F, HMA.out, HKA.out.any, fun k hk => .inl hk⟩
  have hkb : (a.kind == 1) = true := beq_iff_eq.2 h1
  rw [if_pos h1]
  obtain ⟨b, av, S, hin, hft⟩ := HMA.out
  obtain ⟨Av, cv, hav⟩ := hin.ask.shape
  obtain ⟨wd, hwd⟩ : ∃ v, wa.drew = v := ⟨_, rfl⟩
  have hkd : Kp No wa wd := by rw [← hwd]; exact (Kp.refl _ _).drew
  have hbd := hba.kept hkd (fun z => z)
  have hmd := hin.blk.kept hkd (fun z => z)
  obtain ⟨g1, hg1⟩ : ∃ v, wd.heap.size = v := ⟨_, rfl⟩
  obtain ⟨w3, hw3⟩ : ∃ v, wd.alloc (.cells #[.int .i64 a.kind, .int .i64 a.client, .int .i64 a.seq, .string a.name, .string a.data, .int .i64 a.mode, .int .i64 a.lag] 34) = v := ⟨_, rfl⟩
  have hk3 : Kp No wd w3 := by rw [← hw3]; exact (Kp.refl _ _).alloc _
  have hin3 : MIn w3 m b av S M := hin.kept (hkd.trans' hk3) (fun k _ h => h)
  have hsrc := ask_lit wd a (fun k => k = g1) hg1 hn
  rw [hg1, hw3] at hsrc
  have hgl : ∀ k, MFoot m b av S k → k < g1 := fun k hk => by rw [← hg1]; exact Nat.lt_of_lt_of_le (hin.lt hk) hkd.size
  have HIN3 := Lib.hid hin3
  have HSRC := Lib.hid hsrc
  have HGL := Lib.hid hgl
  have HFT := Lib.hid hft
  have HK3 := Lib.hid ((HKA.out.trans' hkd).trans' hk3)
  have HLM := Lib.hid hl
  have k1 : wd.cell? ⟨m, 1, none⟩ = some av := Blk.cell hmd rfl
  have x0 : wd.cell? ⟨y, 0, none⟩ = some _ := Blk.cell hbd rfl
  have x1 : wd.cell? ⟨y, 1, none⟩ = some _ := Blk.cell hbd rfl
  have x2 : wd.cell? ⟨y, 2, none⟩ = some _ := Blk.cell hbd rfl
  have x3 : wd.cell? ⟨y, 3, none⟩ = some _ := Blk.cell hbd rfl
  have x4 : wd.cell? ⟨y, 4, none⟩ = some _ := Blk.cell hbd rfl
  have x5 : wd.cell? ⟨y, 5, none⟩ = some _ := Blk.cell hbd rfl
  have x6 : wd.cell? ⟨y, 6, none⟩ = some _ := Blk.cell hbd rfl
  unfold askV
  subst hav
  clear hka hba hkd hbd hmd hk3 hin3 hsrc hgl hin hft hM hn hl h1
  go_enter Try.func10, Try.ntmps10
  go_wp2_with fail
  clear hwa hy y0
  refine Reg.wp_region_plan [⟨0, false, []⟩, ⟨1, false, []⟩, ⟨2, false, []⟩, ⟨3, false, []⟩, ⟨4, false, []⟩, ⟨5, false, []⟩, ⟨6, true, [2, 3, 4]⟩, ⟨7, true, []⟩, ⟨8, false, []⟩, ⟨9, false, []⟩, ⟨10, true, []⟩] rfl (by kernel_rfl) ?_
  rw [hwd]
  clear hwd
  repeat (first | (refine Reg.look rfl rfl rfl (by go_simp; rfl) rfl ?_; go_simp) | (refine Reg.skip rfl rfl rfl ?_; go_simp))
  refine Reg.act rfl ?_
  go_wp2_with fail
  clear k1 x0 x1 x2 x3 x4 x5 x6 hg1 hw3
  have k1 : w3.cell? ⟨m, 1, none⟩ = some _ := Blk.cell HIN3.out.blk rfl
  (refine ⟨?anew, ?_⟩; case anew => ((repeat (refine Reg.anew_cons rfl rfl (fun _ => by go_simp) ?_)); exact Reg.anew_nil))
  repeat (first | (refine Reg.look rfl rfl rfl (by go_simp; rfl) rfl ?_; go_simp) | (refine Reg.skip rfl rfl rfl ?_; go_simp))
  refine Reg.act rfl ?_
  refine wpList_append_rp (E := Rp.ask) rfl _ (.tmp 15) (.tmp 17) 29 rfl 0 34 72 el_ask (fun k => k = g1) (.slice Av M.asks.length cv) M.asks rfl (HIN3.out.ask.mono (Nat.le_refl _) (fun _ h => h.elim)) (some ⟨g1, 0, none⟩) 1 (fun k => k = g1) [a] rfl HSRC.out Rp.ask_one ?hcap ?hby (Nat.zero_le _) (fun _ h => h) ?hsv ?_
  case hcap => have := HLM.out; simp [maxLen]; omega
  case hby => have := HLM.out; simp; omega
  case hsv => exact fun k hk e => by have := HGL.out k (.inr (.inr (.inl hk))); omega
  intro av2 w4 hown hgr hbl
  have hk4 : Kp (fun k => (Value.slice Av M.asks.length cv).ownBlock = some k) w3 w4 := (Kp.refl _ _).grown hgr (fun g hg _ => hg)
  have hin := HIN3.out
  have hbm := hin.blk.kept hk4 hin.am
  have k1' : w4.cell? ⟨m, 1, none⟩ = some _ := Blk.cell hbm rfl
  have f1 := Blk.fr hbm 1
  have hk5 : Kp (· = m) w4 (w4.setCell ⟨m, 1, none⟩ av2) := (Kp.refl (· = m) w4).setCell (p := ⟨m, 1, none⟩) (fun _ => rfl) _
  have hg3 : ∀ k, MFoot m b (.slice Av M.asks.length cv) S k → k < w3.heap.size := fun k hk => hin.lt hk
  have hown2 : Own Rp.ask w4 No 0 34 av2 (M.asks ++ [a]) := by
    obtain ⟨xs, q1, q2, q3⟩ := hown
    exact ⟨xs, q1, q2, fun i a ha => q3 i a ha⟩
  have hob : ∀ k, av2.ownBlock = some k → (Value.slice Av M.asks.length cv).ownBlock = some k ∨ k = w3.heap.size := fun k hk => by
    rcases hbl with h | h
    · exact .inl (h ▸ hk)
    · rw [h] at hk; injection hk with hk; exact .inr hk.symm
  have hmm : m ≠ w3.heap.size := by have := hg3 m (.inl rfl); omega
  have hmb : b ≠ w3.heap.size := by have := hg3 b (.inr (.inl rfl)); omega
  have HFIN : Hid (MIn (w4.setCell ⟨m, 1, none⟩ av2) m b av2 S { M with asks := M.asks ++ [a] }) := Lib.hid
    ⟨Blk.set hbm 1 av2, (hin.map.kept hk4 hin.ab (fun k hs _ => hin.sa k hs)).kept hk5 (fun e => hin.mb e.symm) (fun k hs _ e => hin.sm (e ▸ hs)), hown2.kept hk5 (fun _ hs _ _ => hs) (fun k hv e => by
        rcases hob k hv with h | h
        · exact hin.am (e ▸ h)
        · omega), hin.mb, hin.sm, hin.sb, fun h => (hob m h).elim hin.am hmm, fun h => (hob b h).elim hin.ab hmb, fun k hs h => (hob k h).elim (hin.sa k hs) (fun e => by have := hin.hi k hs; omega), fun k hs => Nat.lt_of_lt_of_le (hin.hi k hs) (Nat.le_trans hk4.size hk5.size)⟩
  have HUP : Hid (Upd F w (w4.setCell ⟨m, 1, none⟩ av2) (MFoot m b av2 S)) := Lib.hid ⟨(HK3.out.any.trans hk4 (fun k _ h => (HFT.out k).2 (.inr (.inr (.inl h))))).trans hk5 (fun k _ h => (HFT.out k).2 (.inl h)), fun k hk => by
    rcases hk with h | h | h | h
    · exact .inl ((HFT.out k).2 (.inl h))
    · exact .inl ((HFT.out k).2 (.inr (.inl h)))
    · rcases hob k h with h | h
      · exact .inl ((HFT.out k).2 (.inr (.inr (.inl h))))
      · exact .inr (by have := HK3.out.size; omega)
    · exact .inl ((HFT.out k).2 (.inr (.inr (.inr h))))⟩
  obtain ⟨A2, c2, hsh⟩ := hown.shape
  obtain ⟨n2, hn2⟩ : ∃ v, (M.asks ++ [a]).length = v := ⟨_, rfl⟩
  rw [hn2] at hsh
  clear hown hgr hbl hk4 hin hbm hk5 hg3 hown2 hob hmm hmb k1 hn2
  subst hsh
  go_wp2_with fail
  (refine ⟨?anew, ?_⟩; case anew => ((repeat (refine Reg.anew_cons rfl rfl (fun _ => by go_simp) ?_)); exact Reg.anew_nil))
  repeat (first | (refine Reg.look rfl rfl rfl (by go_simp; rfl) rfl ?_; go_simp) | (refine Reg.skip rfl rfl rfl ?_; go_simp))
  refine Reg.act rfl ?_
  go_wp2_with fail
  (refine ⟨?anew, ?_⟩; case anew => ((repeat (refine Reg.anew_cons rfl rfl (fun _ => by go_simp) ?_)); exact Reg.anew_nil))
  repeat (first | (refine Reg.look rfl rfl rfl (by go_simp; rfl) rfl ?_; go_simp) | (refine Reg.skip rfl rfl rfl ?_; go_simp))
  (refine Reg.done ?_; simp only [Exit.then])
  go_wp2_with fail
  go_end0
  exact ⟨rfl, _, ⟨b, _, S, HFIN.out, fun k => Iff.rfl⟩, HUP.out⟩
end

section
open Go.RowKit Go.ChangeShapes Go.WideShapes Go.ChangeAt

theorem Rp.at_ask {w : World} {S : Nat → Prop} {A : Option Addr} {c : Nat} {l : List AskL} (h : Rp.ask.slice.R w S [.slice A l.length c] l) {i : Nat} {x : AskL} (hi : l[i]? = some x) :
    ∃ ad, A = some ad ∧ S ad.block ∧ (∀ (j : Nat) u, x.cells[j]? = some u → w.cell? ((ad.add (i * 7)).add j) = some u) ∧ x.nums := by
  obtain ⟨A2, c2, he, _, _, h3⟩ := h
  simp only [List.cons.injEq, Value.slice.injEq, and_true, true_and] at he
  obtain ⟨rfl, rfl⟩ := he
  have hl : 0 < l.length := by have := (List.getElem?_eq_some_iff.1 hi).1; omega
  obtain ⟨ad, rfl, hb, hc⟩ := h3 hl
  obtain ⟨es, he, rfl, hn⟩ := hc i x hi
  exact ⟨ad, rfl, hb, fun j u hu => he j u hu, hn⟩
theorem ask_cells {w : World} {ad : Addr} {t : AskL} (h : ∀ (j : Nat) u, t.cells[j]? = some u → w.cell? (ad.add j) = some u) :
    w.cell? ad = some (.int .i64 t.kind) ∧ w.cell? ⟨ad.block, ad.off + 1, none⟩ = some (.int .i64 t.client) ∧ w.cell? ⟨ad.block, ad.off + 2, none⟩ = some (.int .i64 t.seq) ∧ w.cell? ⟨ad.block, ad.off + 3, none⟩ = some (.string t.name) ∧
    w.cell? ⟨ad.block, ad.off + 4, none⟩ = some (.string t.data) ∧ w.cell? ⟨ad.block, ad.off + 5, none⟩ = some (.int .i64 t.mode) ∧ w.cell? ⟨ad.block, ad.off + 6, none⟩ = some (.int .i64 t.lag) :=
  ⟨h 0 _ rfl, h 1 _ rfl, h 2 _ rfl, h 3 _ rfl, h 4 _ rfl, h 5 _ rfl, h 6 _ rfl⟩
/-- the put that an operation is -/
def putB (o : OpL) (d : ByteArray) (a : AskL) : Bool := decide (a.client = o.client ∧ a.seq = o.seq ∧ a.name = o.name ∧ a.data = d)
def fnV (y z : Nat) : Value := .func (.func 51) #[] #[.pointer (some ⟨y, 0, none⟩), .pointer (some ⟨z, 0, none⟩)]
set_option maxRecDepth 100000 in
set_option maxHeartbeats 4000000 in
theorem m_index (l : List AskL) (A : Option Addr) (c y z : Nat) (pr : AskL → Bool) (S : Nat → Prop) (w : World) (hl : Rp.ask.slice.R w S [.slice A l.length c] l)
    (hf : ∀ a w', Kp No w w' → Calls Try.prog 51 #[askV a, .pointer (some ⟨y, 0, none⟩), .pointer (some ⟨z, 0, none⟩)] w' fun e w2 => e = .returned (.bool (pr a)) ∧ Kp No w' w2) :
    Calls Try.prog 65 #[.slice A l.length c, fnV y z] w fun e w' => ∃ r : Int, e = .returned (.int .i64 r) ∧ decide (r ≥ 0) = l.any pr ∧ Kp No w w' := by
  have hll : (l.length : Int) ≤ 9223372036854775807 := by
    obtain ⟨_, _, he, h1, h2, _⟩ := id hl
    simp only [List.cons.injEq, Value.slice.injEq, and_true] at he
    unfold maxLen at h2
    omega
  have HL := Lib.hid hl
  have HF := Lib.hid hf
  unfold fnV
  clear hl hf
  go_enter Try.func65, Try.ntmps65
  go_wp2_with fail
  go_loopw [8] (fun iv wr => ∃ i : Nat, i ≤ l.length ∧ iv = .int .i64 (i : Int) ∧ Hid (∀ a ∈ l.take i, pr a = false) ∧ Hid (Kp No w wr)) (fun iv _ => l.length - (intOf iv).toNat)
  case atStart => exact ⟨0, Nat.zero_le _, rfl, Lib.hid (fun a ha => by simp at ha), Lib.hid (Kp.refl _ _)⟩
  case round =>
    obtain ⟨i, hi, rfl, HNO, HKR⟩ := hrel
    by_cases hlt : i < l.length
    · have hli : (i : Int) < (l.length : Int) := by omega
      obtain ⟨a, ha⟩ : ∃ a, l[i]? = some a := ⟨_, List.getElem?_eq_getElem hlt⟩
      obtain ⟨ad, rfl, _, hcell, hn⟩ := Rp.at_ask (Rp.ask.slice.keptNo HL.out HKR.out) ha
      obtain ⟨z0, z1, z2, z3, z4, z5, z6⟩ := ask_cells hcell
      have hfa := HF.out a wr HKR.out
      unfold askV at hfa
      have HFA := Lib.hid hfa
      have HTK : Hid (l.take (i + 1) = l.take i ++ [a]) := Lib.hid (by
        obtain ⟨e1, e2⟩ := List.getElem?_eq_some_iff.1 ha
        rw [List.take_succ_eq_append_getElem e1, e2])
      have HIN := Lib.hid (List.mem_of_getElem? ha)
      clear hcell ha hfa
      go_wp2_with fail
      refine HFA.out.mono ?_
      rintro e w2 ⟨rfl, hk2⟩
      have HK2 := Lib.hid (HKR.out.trans' hk2)
      clear hk2 z0 z1 z2 z3 z4 z5 z6
      obtain ⟨B, hB⟩ : ∃ B, pr a = B := ⟨_, rfl⟩
      have HB := Lib.hid hB
      rw [hB]
      clear hB
      cases B
      case false =>
        go_wp2_with fail
        go_roundw
        case rel => exact ⟨i + 1, by omega, by go_num, Lib.hid (fun b hb => by
          rw [HTK.out] at hb
          rcases List.mem_append.1 hb with hb | hb
          · exact HNO.out b hb
          · rw [List.mem_singleton.1 hb]; exact HB.out), HK2⟩
        case measure => simp [intOf]; omega
      case true =>
        go_wp2_with fail
        go_ret
        exact ⟨_, rfl, by rw [List.any_eq_true.2 ⟨a, HIN.out, HB.out⟩]; exact decide_eq_true (by omega), HK2.out⟩
    · obtain rfl : i = l.length := by omega
      have HNA : Hid (l.any pr = false) := Lib.hid (by
        rw [List.any_eq_false]
        intro a ha
        rw [HNO.out a (by rw [List.take_length]; exact ha)]; simp)
      go_wp2_with fail
      go_ret
      exact ⟨_, rfl, by rw [HNA.out]; rfl, HKR.out⟩
set_option maxRecDepth 100000 in
set_option maxHeartbeats 4000000 in
theorem m_putf (o : OpL) (d : ByteArray) (hv : Value) (y z : Nat) (a : AskL) (w : World) (hy : Blk w y 58 [.int .i64 o.n, .int .i64 o.epoch, .int .i64 o.kind, .int .i64 o.site, .int .i64 o.client, .int .i64 o.seq, .string o.name, .int .i64 o.size, hv]) (hz : Blk w z 9 [.string d]) :
    Calls Try.prog 51 #[askV a, .pointer (some ⟨y, 0, none⟩), .pointer (some ⟨z, 0, none⟩)] w fun e w' => e = .returned (.bool (putB o d a)) ∧ Kp No w w' := by
  obtain ⟨x, hx⟩ : ∃ v, w.heap.size = v := ⟨_, rfl⟩
  obtain ⟨wa, hwa⟩ : ∃ v, w.alloc (.cells #[.int .i64 a.kind, .int .i64 a.client, .int .i64 a.seq, .string a.name, .string a.data, .int .i64 a.mode, .int .i64 a.lag] 34) = v := ⟨_, rfl⟩
  have hka : Kp No w wa := by rw [← hwa]; exact (Kp.refl _ _).alloc _
  have hba : Blk wa x 34 [.int .i64 a.kind, .int .i64 a.client, .int .i64 a.seq, .string a.name, .string a.data, .int .i64 a.mode, .int .i64 a.lag] := by rw [← hwa, ← hx]; exact Blk.new w _ _
  have hyk := hy.kept hka (fun z => z)
  have hzk := hz.kept hka (fun z => z)
  have x1 : wa.cell? ⟨x, 1, none⟩ = some _ := Blk.cell hba rfl
  have x2 : wa.cell? ⟨x, 2, none⟩ = some _ := Blk.cell hba rfl
  have x3 : wa.cell? ⟨x, 3, none⟩ = some _ := Blk.cell hba rfl
  have x4 : wa.cell? ⟨x, 4, none⟩ = some _ := Blk.cell hba rfl
  have y4 : wa.cell? ⟨y, 4, none⟩ = some _ := Blk.cell hyk rfl
  have y5 : wa.cell? ⟨y, 5, none⟩ = some _ := Blk.cell hyk rfl
  have y6 : wa.cell? ⟨y, 6, none⟩ = some _ := Blk.cell hyk rfl
  have q0 : wa.cell? ⟨z, 0, none⟩ = some _ := Blk.cell hzk rfl
  have HK := Lib.hid hka
  obtain ⟨R, hR⟩ : ∃ R, putB o d a = R := ⟨_, rfl⟩
  rw [hR]
  unfold putB at hR
  have HR := Lib.hid hR
  unfold askV
  clear hka hba hyk hzk hy hz hR
  obtain ⟨on, oe, ok, os, oc, oq, onm, osz, ohs⟩ := o
  obtain ⟨ak, ac, aq, anm, adt, am, al⟩ := a
  simp only at *
  by_cases e1 : ac = oc
  case neg =>
    have f : (ac == oc) = false := beq_eq_false_iff_ne.2 e1
    have HF : Hid (R = false) := Lib.hid (by rw [← HR.out]; exact decide_eq_false (fun h => e1 h.1))
    clear e1
    go_enter Try.func51, Try.ntmps51
    go_wp2_with fail
    go_ret
    exact ⟨by rw [HF.out]; rfl, HK.out⟩
  by_cases e2 : aq = oq
  case neg =>
    have f0 : (ac == oc) = true := beq_iff_eq.2 e1
    have f : (aq == oq) = false := beq_eq_false_iff_ne.2 e2
    have HF : Hid (R = false) := Lib.hid (by rw [← HR.out]; exact decide_eq_false (fun h => e2 h.2.1))
    clear e1 e2
    go_enter Try.func51, Try.ntmps51
    go_wp2_with fail
    go_ret
    exact ⟨by rw [HF.out]; rfl, HK.out⟩
  by_cases e3 : anm = onm
  case neg =>
    have f0 : (ac == oc) = true := beq_iff_eq.2 e1
    have f1 : (aq == oq) = true := beq_iff_eq.2 e2
    have f : (anm.toList == onm.toList) = false := by rw [bytes_list_beq]; exact decide_eq_false e3
    have HF : Hid (R = false) := Lib.hid (by rw [← HR.out]; exact decide_eq_false (fun h => e3 h.2.2.1))
    clear e1 e2 e3
    go_enter Try.func51, Try.ntmps51
    go_wp2_with fail
    go_ret
    exact ⟨by rw [HF.out]; rfl, HK.out⟩
  have f0 : (ac == oc) = true := beq_iff_eq.2 e1
  have f1 : (aq == oq) = true := beq_iff_eq.2 e2
  have f2 : (anm.toList == onm.toList) = true := by rw [bytes_list_beq]; exact decide_eq_true e3
  obtain ⟨Q, hQ⟩ : ∃ Q, decide (adt = d) = Q := ⟨_, rfl⟩
  have f3 : (adt.toList == d.toList) = Q := by rw [bytes_list_beq]; exact hQ
  have HF : Hid (R = Q) := Lib.hid (by rw [← HR.out, ← hQ]; simp [e1, e2, e3])
  clear e1 e2 e3 hQ
  go_enter Try.func51, Try.ntmps51
  go_wp2_with fail
  go_ret
  exact ⟨by rw [HF.out]; rfl, HK.out⟩
set_option maxRecDepth 100000 in
set_option maxHeartbeats 4000000 in
theorem m_contains (l : List AskL) (A : Option Addr) (c y z : Nat) (pr : AskL → Bool) (S : Nat → Prop) (w : World) (hl : Rp.ask.slice.R w S [.slice A l.length c] l)
    (hf : ∀ a w', Kp No w w' → Calls Try.prog 51 #[askV a, .pointer (some ⟨y, 0, none⟩), .pointer (some ⟨z, 0, none⟩)] w' fun e w2 => e = .returned (.bool (pr a)) ∧ Kp No w' w2) :
    Calls Try.prog 50 #[.slice A l.length c, fnV y z] w fun e w' => e = .returned (.bool (l.any pr)) ∧ Kp No w w' := by
  have HI := Lib.hid (m_index l A c y z pr S w hl hf)
  clear hl hf
  unfold fnV at *
  go_enter Try.func50, Try.ntmps50
  go_wp2_with fail
  refine HI.out.mono ?_
  rintro e w2 ⟨r, rfl, hr, hk⟩
  have HK := Lib.hid hk
  have HR := Lib.hid hr
  clear hk hr HI
  go_wp2_with fail
  go_ret
  exact ⟨by rw [← HR.out]; rfl, HK.out⟩
end
end Go.Proofs.Ytamfgmlhopjppaa
