/-
  (*Model).Judge, whole (of whatever 'put' says).
-/
import Derived.Test.YtamfgmlhopjppaaRmH
import Derived.Test.YtamfgmlhopjppaaGJ
import Derived.Test.YtamfgmlhopjppaaGG
import Derived.Test.YtamfgmlhopjppaaGD
namespace Go.Proofs.Ytamfgmlhopjppaa
open Go.RowKit Go.ChangeShapes Go.WideShapes Go.ChangeAt

set_option maxRecDepth 100000 in
set_option maxHeartbeats 40000000 in
theorem m_judge {M : MV} (hok : OkM M) (P : OpL → ByteArray → Bool) (m : Nat) (F : Nat → Prop) (w : World) (hM : MAt w m M F) (a : AskL) (x : RepL) (hxn : x.nums) (A : Option Addr) (c : Nat) (lv : Value)
    (hP : ∀ (o : OpL) (d : ByteArray) (A' : Option Addr) (c' : Nat) (S : Nat → Prop) w', Kp No w w' → d.size ≤ maxLen → Rp.str.slice.R w' S [.slice A' o.hashes.length c'] o.hashes →
      Calls Try.prog 37 #[.pointer (some ⟨m, 0, none⟩), opV o (.slice A' o.hashes.length c'), .string d] w' fun e w'' => e = .returned (.bool (P o d)) ∧ Kp No w' w'')
    (S : Nat → Prop) (hx : Rp.str.slice.R w S [.slice A x.names.length c] x.names) :
    Calls Try.prog 12 #[.pointer (some ⟨m, 0, none⟩), askV a, repV x (.slice A x.names.length c) lv] w fun e w' => e = .returned (.int .i64 (judgeP M P a x)) ∧ Kp No w w' := by
  obtain ⟨wb, hwb⟩ : ∃ v, w.alloc (.cells #[.int .i64 a.kind, .int .i64 a.client, .int .i64 a.seq, .string a.name, .string a.data, .int .i64 a.mode, .int .i64 a.lag] 34) = v := ⟨_, rfl⟩
  obtain ⟨y, hy⟩ : ∃ v, w.heap.size = v := ⟨_, rfl⟩
  have hkb : Kp No w wb := by rw [← hwb]; exact (Kp.refl _ _).alloc _
  have hbb : Blk wb y 34 [.int .i64 a.kind, .int .i64 a.client, .int .i64 a.seq, .string a.name, .string a.data, .int .i64 a.mode, .int .i64 a.lag] := by rw [← hwb, ← hy]; exact Blk.new w _ _
  obtain ⟨z, hz⟩ : ∃ v, wb.heap.size = v := ⟨_, rfl⟩
  obtain ⟨wa, hwa⟩ : ∃ v, wb.alloc (.cells #[.int .i64 x.ask, .int .i64 x.err, .int .i64 x.an, .int .i64 x.ae, .slice A x.names.length c, .string x.data, lv] 40) = v := ⟨_, rfl⟩
  have hkx : Kp No wb wa := by rw [← hwa]; exact (Kp.refl _ _).alloc _
  have HBZ : Hid (Blk wa z 40 [.int .i64 x.ask, .int .i64 x.err, .int .i64 x.an, .int .i64 x.ae, .slice A x.names.length c, .string x.data, lv]) := Lib.hid (by rw [← hwa, ← hz]; exact Blk.new wb _ _)
  have HBY := Lib.hid (hbb.kept hkx (fun z => z))
  have HKA := Lib.hid (hkb.trans' hkx)
  have HMA := Lib.hid (fun w' (hk : Kp No wa w') => hM.keptNo (HKA.out.trans' hk))
  have HLV := Lib.hid (fun w' (hk : Kp No wa w') => m_live (x.an, x.ae) m M F w' (HMA.out w' hk) hok)
  have HPU := Lib.hid (fun o d A' c' S w' (hk : Kp No wa w') => hP o d A' c' S w' (HKA.out.trans' hk))
  have HXR := Lib.hid (fun w' (hk : Kp No wa w') => Rp.str.slice.keptNo hx (HKA.out.trans' hk))
  obtain ⟨J, hJ⟩ : ∃ J, judgeP M P a x = J := ⟨_, rfl⟩
  rw [hJ]
  have HJ := Lib.hid hJ
  unfold judgeP findM namesM at HJ
  obtain ⟨TB, hTB⟩ : ∃ v, (pathM M (x.an, x.ae)).isSome = v := ⟨_, rfl⟩
  obtain ⟨LF, hLF⟩ : ∃ v, mget (x.an, x.ae) M.lines = v := ⟨_, rfl⟩
  have hnum : ∀ o ∈ pathD M (x.an, x.ae), o.name.size ≤ maxLen := fun o ho => by
    obtain ⟨q, l, hq, rfl⟩ := (pathD_mem hok (x.an, x.ae)).1 o ho
    obtain ⟨_, _, _, hin, _⟩ := hM
    exact (hin.nums hq).1.2.2.2.2.2.2.1
  have hlen := (pathD_mem hok (x.an, x.ae)).2
  obtain ⟨hf1, hf2⟩ := live_fold (pathD M (x.an, x.ae)) []
  obtain ⟨V, hV⟩ : ∃ V, liveL1 (pathD M (x.an, x.ae)) = V := ⟨_, rfl⟩
  have HSZ : Hid (∀ k ∈ V.map (·.1), k.size ≤ maxLen) := Lib.hid (fun k hk => by
    rw [← hV] at hk
    rcases hf1 k hk with h | ⟨o, ho, rfl⟩
    · simp at h
    · exact hnum o ho)
  have HVL : Hid (V.length ≤ 1000000) := Lib.hid (by
    rw [← hV]
    have h2 : (liveL1 (pathD M (x.an, x.ae))).length ≤ ([] : List (ByteArray × OpL)).length + (pathD M (x.an, x.ae)).length := hf2
    simp only [List.length_nil] at h2
    omega)
  rw [hTB, hLF, hV] at HJ
  rw [hTB, hV] at HLV
  have HNUM := Lib.hid hxn
  have HLF := Lib.hid hLF
  unfold askV repV
  clear hkb hbb hkx hM hP hx hJ hTB hLF hV hxn hnum hlen hf1 hf2
  obtain ⟨ak, ac, as_, anm, ad, am, al⟩ := a
  obtain ⟨xk, xe, xn, xep, xs, xd, xl⟩ := x
  simp only at HJ HLV HXR HBY HBZ HLF HNUM ⊢
  go_enter Try.func12, Try.ntmps12
  go_upto_region 1 with fail
  try rw [hwb]
  try rw [hwa]
  try rw [hy]
  try rw [hz]
  clear hwb hwa hy hz
  have y0 : wa.cell? ⟨y, 0, none⟩ = some _ := Blk.cell (HBY.out.kept (Kp.refl No wa) (fun z => z)) rfl
  have y1 : wa.cell? ⟨y, 1, none⟩ = some _ := Blk.cell (HBY.out.kept (Kp.refl No wa) (fun z => z)) rfl
  have y2 : wa.cell? ⟨y, 2, none⟩ = some _ := Blk.cell (HBY.out.kept (Kp.refl No wa) (fun z => z)) rfl
  have y3 : wa.cell? ⟨y, 3, none⟩ = some _ := Blk.cell (HBY.out.kept (Kp.refl No wa) (fun z => z)) rfl
  have z1 : wa.cell? ⟨z, 1, none⟩ = some _ := Blk.cell (HBZ.out.kept (Kp.refl No wa) (fun z => z)) rfl
  have z2 : wa.cell? ⟨z, 2, none⟩ = some _ := Blk.cell (HBZ.out.kept (Kp.refl No wa) (fun z => z)) rfl
  have z3 : wa.cell? ⟨z, 3, none⟩ = some _ := Blk.cell (HBZ.out.kept (Kp.refl No wa) (fun z => z)) rfl
  have z4 : wa.cell? ⟨z, 4, none⟩ = some _ := Blk.cell (HBZ.out.kept (Kp.refl No wa) (fun z => z)) rfl
  have z5 : wa.cell? ⟨z, 5, none⟩ = some _ := Blk.cell (HBZ.out.kept (Kp.refl No wa) (fun z => z)) rfl
  unfold spotV at HLV
  obtain ⟨NB, HNB⟩ : ∃ NB : Bool, Hid ((NB = true ∧ xe = 123 ∧ ak = 4) ∨ (NB = false ∧ ¬ (xe = 123 ∧ ak = 4))) := by
    by_cases h : xe = 123 ∧ ak = 4
    · exact ⟨true, Lib.hid (.inl ⟨rfl, h⟩)⟩
    · exact ⟨false, Lib.hid (.inr ⟨rfl, h⟩)⟩
  go_upto_region 3 with fail
  go_cut [7] (fun bv wx => bv = .bool NB ∧ wx = wa)
  case first =>
    rcases HNB.out with ⟨rfl, rfl, rfl⟩ | ⟨rfl, h⟩
    · go_wp2_with fail
      go_meet
      exact ⟨rfl, rfl⟩
    · by_cases h1 : xe = 123
      · have h1b : (xe == 123) = true := beq_iff_eq.2 h1
        have h2 : (ak == 4) = false := beq_eq_false_iff_ne.2 (fun h2 => h ⟨h1, h2⟩)
        clear h h1
        go_wp2_with fail
        go_meet
        exact ⟨rfl, rfl⟩
      · have h1b : (xe == 123) = false := beq_eq_false_iff_ne.2 h1
        clear h h1
        go_wp2_with fail
        go_meet
        exact ⟨rfl, rfl⟩
  case rest =>
    obtain ⟨rfl, rfl⟩ := hcut
    obtain ⟨wa, rfl⟩ : ∃ v, v = wc := ⟨_, rfl⟩
    by_cases hdn : xe ≠ 0 ∧ NB = false
    case pos =>
      obtain ⟨he, rfl⟩ := hdn
      have h4 : ¬ (xe = 123 ∧ ak = 4) := by
        rcases HNB.out with h | h
        · cases h.1
        · exact h.2
      rw [if_neg he, if_neg h4] at HJ
      have eb : (xe != 0) = true := bne_iff_ne.2 he
      clear he h4 HNB HLV HPU HLF
      by_cases hn : 0 < xs.length
      · have hj : J = 200 := by rw [← HJ.out, if_pos (.inl (fun e => by rw [e] at hn; cases hn))]
        subst hj
        obtain ⟨n, hnn⟩ : ∃ n, xs.length = n := ⟨_, rfl⟩
        rw [hnn] at z4 hn
        have hnb : ((n : Int) == 0) = false := beq_eq_false_iff_ne.2 (by omega)
        have hnb2 : (n == 0) = false := beq_eq_false_iff_ne.2 (by omega)
        clear hnn
        have hdn := fun w => Lib.hid (m_denied false w)
        go_wp2_with fail
        refine (hdn _).out.mono ?_
        rintro e w9 ⟨rfl, hk9⟩
        have HK9 := Lib.hid (HKA.out.trans' hk9)
        clear hk9 hdn
        go_wp2_with fail
        go_ret
        exact ⟨rfl, HK9.out⟩
      · obtain rfl : xs = [] := List.eq_nil_of_length_eq_zero (by omega)
        clear hn
        by_cases hd : xd = ⟨#[]⟩
        · have hj : J = 0 := by rw [← HJ.out, if_neg (by rintro (h | h); exact h rfl; exact h hd)]
          subst hj
          subst hd
          have hdn := fun w => Lib.hid (m_denied true w)
          go_wp2_with fail
          refine (hdn _).out.mono ?_
          rintro e w9 ⟨rfl, hk9⟩
          have HK9 := Lib.hid (HKA.out.trans' hk9)
          clear hk9 hdn
          go_wp2_with fail
          go_ret
          exact ⟨rfl, HK9.out⟩
        · have hj : J = 200 := by rw [← HJ.out, if_pos (.inr hd)]
          subst hj
          have hdb : (xd.toList == []) = false := by rw [empty_beq]; exact decide_eq_false hd
          clear hd
          have hdn := fun w => Lib.hid (m_denied false w)
          go_wp2_with fail
          refine (hdn _).out.mono ?_
          rintro e w9 ⟨rfl, hk9⟩
          have HK9 := Lib.hid (HKA.out.trans' hk9)
          clear hk9 hdn
          go_wp2_with fail
          go_ret
          exact ⟨rfl, HK9.out⟩
    case neg =>
      have hgo : xe = 0 ∨ (xe = 123 ∧ ak = 4 ∧ NB = true) := by
        by_cases he : xe = 0
        · exact .inl he
        · rcases HNB.out with ⟨h1, h2, h3⟩ | ⟨h, _⟩
          · exact .inr ⟨h2, h3, h1⟩
          · exact absurd ⟨he, h⟩ hdn
      go_upto_region 4 with fail
      go_cut [7, 30] (fun nv bv wx => nv = .bool NB ∧ bv = .bool false ∧ wx = wa)
      case first =>
        rcases hgo with h | ⟨h, h', hnb⟩
        · have eb : (xe != 0) = false := by rw [h]; rfl
          clear h
          go_wp2_with fail
          go_meet
          exact ⟨rfl, rfl, rfl⟩
        · have eb : (xe != 0) = true := by rw [h]; rfl
          clear h hdn h'
          go_wp2_with fail
          go_meet
          exact ⟨by rw [hnb], rfl, rfl⟩
      case rest =>
        obtain ⟨rfl, rfl, rfl⟩ := hcut
        obtain ⟨wa, rfl⟩ : ∃ v, v = wc := ⟨_, rfl⟩
        have HGO := Lib.hid hgo
        clear hgo hdn
        go_wp2_with fail
        refine (HLV.out wa (Kp.refl _ _)).mono ?_
        rintro e w2 ⟨b, rfl, hbw, hmp, hk2⟩
        obtain ⟨o, A2, n2, c2, IS, hlk, his⟩ := live_look hmp anm
        unfold opV at hlk
        have hl := hlk w2 (Kp.refl _ _)
        have HIS := Lib.hid his
        have HMP := Lib.hid hmp
        have HK2 := Lib.hid hk2
        clear y0 y1 y2 y3 z1 z2 z3 z4 z5
        have y0 : w2.cell? ⟨y, 0, none⟩ = some _ := Blk.cell (HBY.out.kept HK2.out (fun z => z)) rfl
        have y1 : w2.cell? ⟨y, 1, none⟩ = some _ := Blk.cell (HBY.out.kept HK2.out (fun z => z)) rfl
        have y2 : w2.cell? ⟨y, 2, none⟩ = some _ := Blk.cell (HBY.out.kept HK2.out (fun z => z)) rfl
        have y3 : w2.cell? ⟨y, 3, none⟩ = some _ := Blk.cell (HBY.out.kept HK2.out (fun z => z)) rfl
        have z1 : w2.cell? ⟨z, 1, none⟩ = some _ := Blk.cell (HBZ.out.kept HK2.out (fun z => z)) rfl
        have z2 : w2.cell? ⟨z, 2, none⟩ = some _ := Blk.cell (HBZ.out.kept HK2.out (fun z => z)) rfl
        have z3 : w2.cell? ⟨z, 3, none⟩ = some _ := Blk.cell (HBZ.out.kept HK2.out (fun z => z)) rfl
        have z4 : w2.cell? ⟨z, 4, none⟩ = some _ := Blk.cell (HBZ.out.kept HK2.out (fun z => z)) rfl
        have z5 : w2.cell? ⟨z, 5, none⟩ = some _ := Blk.cell (HBZ.out.kept HK2.out (fun z => z)) rfl
        clear hbw hmp hk2 hlk his HLV
        go_upto_region 8 with fail
        obtain ⟨u, hu⟩ : ∃ v, w2.heap.size = v := ⟨_, rfl⟩
        obtain ⟨w3, hw3⟩ : ∃ v, w2.alloc (.cells #[.int .i64 o.n, .int .i64 o.epoch, .int .i64 o.kind, .int .i64 o.site, .int .i64 o.client, .int .i64 o.seq, .string o.name, .int .i64 o.size, .slice A2 n2 c2] 58) = v := ⟨_, rfl⟩
        have hk3 : Kp No w2 w3 := by rw [← hw3]; exact (Kp.refl _ _).alloc _
        have hbu : Blk w3 u 58 [.int .i64 o.n, .int .i64 o.epoch, .int .i64 o.kind, .int .i64 o.site, .int .i64 o.client, .int .i64 o.seq, .string o.name, .int .i64 o.size, .slice A2 n2 c2] := by rw [← hw3, ← hu]; exact Blk.new w2 _ _
        try rw [hw3]
        try rw [hu]
        have hld := run_load_op hbu
        unfold opV at hld
        have HLD := Lib.hid hld
        have HBU := Lib.hid hbu
        have HK3 := Lib.hid (HK2.out.trans' hk3)
        have HK3a := Lib.hid hk3
        have HKZ := Lib.hid (HKA.out.trans' HK3.out)
        clear y0 y1 y2 y3 z1 z2 z3 z4 z5
        have y0 : w3.cell? ⟨y, 0, none⟩ = some _ := Blk.cell (HBY.out.kept HK3.out (fun z => z)) rfl
        have y1 : w3.cell? ⟨y, 1, none⟩ = some _ := Blk.cell (HBY.out.kept HK3.out (fun z => z)) rfl
        have y2 : w3.cell? ⟨y, 2, none⟩ = some _ := Blk.cell (HBY.out.kept HK3.out (fun z => z)) rfl
        have y3 : w3.cell? ⟨y, 3, none⟩ = some _ := Blk.cell (HBY.out.kept HK3.out (fun z => z)) rfl
        have z1 : w3.cell? ⟨z, 1, none⟩ = some _ := Blk.cell (HBZ.out.kept HK3.out (fun z => z)) rfl
        have z2 : w3.cell? ⟨z, 2, none⟩ = some _ := Blk.cell (HBZ.out.kept HK3.out (fun z => z)) rfl
        have z3 : w3.cell? ⟨z, 3, none⟩ = some _ := Blk.cell (HBZ.out.kept HK3.out (fun z => z)) rfl
        have z4 : w3.cell? ⟨z, 4, none⟩ = some _ := Blk.cell (HBZ.out.kept HK3.out (fun z => z)) rfl
        have z5 : w3.cell? ⟨z, 5, none⟩ = some _ := Blk.cell (HBZ.out.kept HK3.out (fun z => z)) rfl
        clear hk3 hbu hw3 hu hl hld
        by_cases h5 : ak = 5
        case pos =>
          subst h5
          have he : xe = 0 := by
            rcases HGO.out with h | ⟨_, h, _⟩
            · exact h
            · cases h
          have hj : J = 0 := by rw [← HJ.out, if_pos he, if_neg (by omega), if_neg (by omega), if_neg (by omega), if_pos (.inl rfl)]
          subst hj
          clear he
          go_wp2_with fail
          go_ret
          exact ⟨rfl, HKZ.out⟩
        case neg =>
        by_cases h6 : ak = 6
        case pos =>
          subst h6
          have he : xe = 0 := by
            rcases HGO.out with h | ⟨_, h, _⟩
            · exact h
            · cases h
          have hj : J = 0 := by rw [← HJ.out, if_pos he, if_neg (by omega), if_neg (by omega), if_neg (by omega), if_pos (.inr rfl)]
          subst hj
          clear he
          go_wp2_with fail
          go_ret
          exact ⟨rfl, HKZ.out⟩
        case neg =>
        have kb5 : (ak == 5) = false := beq_eq_false_iff_ne.2 h5
        have kb6 : (ak == 6) = false := beq_eq_false_iff_ne.2 h6
        by_cases h12 : ak = 1 ∨ ak = 2
        case pos =>
          have he : xe = 0 := by
            rcases HGO.out with h | ⟨_, h, _⟩
            · exact h
            · omega
          rw [if_pos he, if_pos h12] at HJ
          have HB12 : Hid ((ak == 1) = true ∨ ((ak == 1) = false ∧ (ak == 2) = true)) := Lib.hid (by
            by_cases h1 : ak = 1
            · exact .inl (beq_iff_eq.2 h1)
            · exact .inr ⟨beq_eq_false_iff_ne.2 h1, beq_iff_eq.2 (h12.resolve_left h1)⟩)
          clear he h12 h5 h6 HPU HXR HLD HIS HMP
          obtain ⟨bb, av, S', hin, hft⟩ := HMA.out w3 HK3.out
          obtain ⟨was, A6, n6, c6, B, hlook, hB⟩ := hin.look (xn, xep)
          unfold spotV at hlook
          have HBM := Lib.hid hin.blk
          have HLOOK := Lib.hid hlook
          have HBQ := Lib.hid hB
          clear hin hft hlook hB
          obtain ⟨wr, rfl⟩ : ∃ v, v = w3 := ⟨_, rfl⟩
          rcases HB12.out with h1b | ⟨h1b, h2b⟩
          case inl =>
            go_upto_region 14 with fail
            clear y0 y1 y2 y3 z1 z2 z3 z4 z5
            obtain ⟨wd, hwd⟩ : ∃ v, wr.drew = v := ⟨_, rfl⟩
            have HKD : Hid (Kp No wr wd) := Lib.hid (by rw [← hwd]; exact (Kp.refl _ _).drew)
            have y0 : wd.cell? ⟨y, 0, none⟩ = some _ := Blk.cell (HBY.out.kept (HK3.out.trans' HKD.out) (fun z => z)) rfl
            have y1 : wd.cell? ⟨y, 1, none⟩ = some _ := Blk.cell (HBY.out.kept (HK3.out.trans' HKD.out) (fun z => z)) rfl
            have y2 : wd.cell? ⟨y, 2, none⟩ = some _ := Blk.cell (HBY.out.kept (HK3.out.trans' HKD.out) (fun z => z)) rfl
            have y3 : wd.cell? ⟨y, 3, none⟩ = some _ := Blk.cell (HBY.out.kept (HK3.out.trans' HKD.out) (fun z => z)) rfl
            have z1 : wd.cell? ⟨z, 1, none⟩ = some _ := Blk.cell (HBZ.out.kept (HK3.out.trans' HKD.out) (fun z => z)) rfl
            have z2 : wd.cell? ⟨z, 2, none⟩ = some _ := Blk.cell (HBZ.out.kept (HK3.out.trans' HKD.out) (fun z => z)) rfl
            have z3 : wd.cell? ⟨z, 3, none⟩ = some _ := Blk.cell (HBZ.out.kept (HK3.out.trans' HKD.out) (fun z => z)) rfl
            have z4 : wd.cell? ⟨z, 4, none⟩ = some _ := Blk.cell (HBZ.out.kept (HK3.out.trans' HKD.out) (fun z => z)) rfl
            have z5 : wd.cell? ⟨z, 5, none⟩ = some _ := Blk.cell (HBZ.out.kept (HK3.out.trans' HKD.out) (fun z => z)) rfl
            have k0 : wd.cell? ⟨m, 0, none⟩ = some _ := Blk.cell (HBM.out.kept HKD.out (fun z => z)) rfl
            have hl := HLOOK.out wd HKD.out
            refine Reg.wp_region_plan [⟨0, false, []⟩, ⟨1, false, []⟩, ⟨2, false, []⟩, ⟨3, false, []⟩, ⟨4, false, []⟩, ⟨5, false, []⟩, ⟨6, false, []⟩, ⟨7, false, []⟩, ⟨8, false, []⟩, ⟨9, false, []⟩, ⟨10, true, [1, 2, 3, 4, 5, 6, 8, 9]⟩, ⟨11, true, [9]⟩, ⟨12, false, []⟩] rfl (by kernel_rfl) ?_
            rw [hwd]
            clear hwd
            repeat (first | (refine Reg.look rfl rfl rfl (by go_simp; rfl) rfl ?_; go_simp) | (refine Reg.skip rfl rfl rfl ?_; go_simp))
            obtain ⟨v, hz⟩ : ∃ v, wd.heap.size = v := ⟨_, rfl⟩
            obtain ⟨w5, hw5⟩ : ∃ v, wd.alloc (.cells #[.int .i64 0, .int .i64 0, .int .i64 0, .int .i64 0, .int .i64 0, .int .i64 0, .string { data := #[] }, .int .i64 0, .slice none 0 0, .int .i64 0, .int .i64 0] 71) = v := ⟨_, rfl⟩
            have HBV : Hid (Blk w5 v 71 [.int .i64 0, .int .i64 0, .int .i64 0, .int .i64 0, .int .i64 0, .int .i64 0, .string { data := #[] }, .int .i64 0, .slice none 0 0, .int .i64 0, .int .i64 0]) := Lib.hid (by rw [← hw5, ← hz]; exact Blk.new wd _ _)
            have HK5 : Hid (Kp No wr w5) := Lib.hid (by rw [← hw5]; exact HKD.out.alloc _)
            have HZW : Hid (wr.heap.size ≤ v) := Lib.hid (by rw [← hz]; exact HKD.out.size)
            refine Reg.act rfl ?_
            go_wp2_with fail
            clear k0 hl hw5 hz
            clear y0 y1 y2 y3 z1 z2 z3 z4 z5
            have y0 : w5.cell? ⟨y, 0, none⟩ = some _ := Blk.cell (HBY.out.kept (HK3.out.trans' HK5.out) (fun z => z)) rfl
            have y1 : w5.cell? ⟨y, 1, none⟩ = some _ := Blk.cell (HBY.out.kept (HK3.out.trans' HK5.out) (fun z => z)) rfl
            have y2 : w5.cell? ⟨y, 2, none⟩ = some _ := Blk.cell (HBY.out.kept (HK3.out.trans' HK5.out) (fun z => z)) rfl
            have y3 : w5.cell? ⟨y, 3, none⟩ = some _ := Blk.cell (HBY.out.kept (HK3.out.trans' HK5.out) (fun z => z)) rfl
            have z1 : w5.cell? ⟨z, 1, none⟩ = some _ := Blk.cell (HBZ.out.kept (HK3.out.trans' HK5.out) (fun z => z)) rfl
            have z2 : w5.cell? ⟨z, 2, none⟩ = some _ := Blk.cell (HBZ.out.kept (HK3.out.trans' HK5.out) (fun z => z)) rfl
            have z3 : w5.cell? ⟨z, 3, none⟩ = some _ := Blk.cell (HBZ.out.kept (HK3.out.trans' HK5.out) (fun z => z)) rfl
            have z4 : w5.cell? ⟨z, 4, none⟩ = some _ := Blk.cell (HBZ.out.kept (HK3.out.trans' HK5.out) (fun z => z)) rfl
            have z5 : w5.cell? ⟨z, 5, none⟩ = some _ := Blk.cell (HBZ.out.kept (HK3.out.trans' HK5.out) (fun z => z)) rfl
            have k0 : w5.cell? ⟨m, 0, none⟩ = some _ := Blk.cell (HBM.out.kept HK5.out (fun z => z)) rfl
            have hl := HLOOK.out w5 HK5.out
            (refine ⟨?anew, ?_⟩; case anew => ((repeat (refine Reg.anew_cons rfl rfl (fun _ => by go_simp) ?_)); exact Reg.anew_nil))
            repeat (first | (refine Reg.look rfl rfl rfl (by go_simp; rfl) rfl ?_; go_simp) | (refine Reg.skip rfl rfl rfl ?_; go_simp))
            have hst := run_store_line w5 v 0 was A6 n6 c6 _ _ _ _ _ _ _ _ _ _ _ (Blk.cell HBV.out (i := 0) rfl) (Blk.cell HBV.out (i := 1) rfl) (Blk.cell HBV.out (i := 2) rfl) (Blk.cell HBV.out (i := 3) rfl) (Blk.cell HBV.out (i := 4) rfl) (Blk.cell HBV.out (i := 5) rfl) (Blk.cell HBV.out (i := 6) rfl) (Blk.cell HBV.out (i := 7) rfl) (Blk.cell HBV.out (i := 8) rfl) (Blk.cell HBV.out (i := 9) rfl) (Blk.cell HBV.out (i := 10) rfl) (Blk.fr HBV.out)
            obtain ⟨w6, hw6⟩ : ∃ x, wset w5 v 0 (was.cells (.slice A6 n6 c6)) = x := ⟨_, rfl⟩
            have hb6 := wset_blk (vs := was.cells (.slice A6 n6 c6)) (o := 0) HBV.out
            have hk6 : Kp (· = v) w5 (wset w5 v 0 (was.cells (.slice A6 n6 c6))) := wset_kp
            rw [hw6] at hst hb6 hk6
            have HB6 : Hid (Blk w6 v 71 [.int .i64 was.op.n, .int .i64 was.op.epoch, .int .i64 was.op.kind, .int .i64 was.op.site, .int .i64 was.op.client, .int .i64 was.op.seq, .string was.op.name, .int .i64 was.op.size, .slice A6 n6 c6, .int .i64 was.an, .int .i64 was.ae]) := Lib.hid hb6
            have HK6 : Hid (Kp No wr w6) := Lib.hid (HK5.out.trans hk6 (fun k hk e => by have := HZW.out; omega))
            have HST := Lib.hid hst
            clear hst hb6 hk6 hw6 k0 hl
            clear y0 y1 y2 y3 z1 z2 z3 z4 z5
            refine Reg.act rfl ?_
            go_wp2_with (refine wpl_store (by first | rfl | go_simp) 71 _ _ rfl _ _ (by go_simp) (by go_simp) HST.out ?_; go_simp)
            (refine ⟨?anew, ?_⟩; case anew => ((repeat (refine Reg.anew_cons rfl rfl (fun _ => by go_simp) ?_)); exact Reg.anew_nil))
            repeat (first | (refine Reg.look rfl rfl rfl (by go_simp; rfl) rfl ?_; go_simp) | (refine Reg.skip rfl rfl rfl ?_; go_simp))
            (refine Reg.done ?_; simp only [Exit.then])
            have HKY := Lib.hid (HKZ.out.trans' HK6.out)
            have v2 : w6.cell? ⟨v, 2, none⟩ = some _ := Blk.cell HB6.out rfl
            have v4 : w6.cell? ⟨v, 4, none⟩ = some _ := Blk.cell HB6.out rfl
            have v5 : w6.cell? ⟨v, 5, none⟩ = some _ := Blk.cell HB6.out rfl
            have y0 : w6.cell? ⟨y, 0, none⟩ = some _ := Blk.cell (HBY.out.kept (HK3.out.trans' HK6.out) (fun z => z)) rfl
            have y1 : w6.cell? ⟨y, 1, none⟩ = some _ := Blk.cell (HBY.out.kept (HK3.out.trans' HK6.out) (fun z => z)) rfl
            have y2 : w6.cell? ⟨y, 2, none⟩ = some _ := Blk.cell (HBY.out.kept (HK3.out.trans' HK6.out) (fun z => z)) rfl
            have y3 : w6.cell? ⟨y, 3, none⟩ = some _ := Blk.cell (HBY.out.kept (HK3.out.trans' HK6.out) (fun z => z)) rfl
            have z1 : w6.cell? ⟨z, 1, none⟩ = some _ := Blk.cell (HBZ.out.kept (HK3.out.trans' HK6.out) (fun z => z)) rfl
            have z2 : w6.cell? ⟨z, 2, none⟩ = some _ := Blk.cell (HBZ.out.kept (HK3.out.trans' HK6.out) (fun z => z)) rfl
            have z3 : w6.cell? ⟨z, 3, none⟩ = some _ := Blk.cell (HBZ.out.kept (HK3.out.trans' HK6.out) (fun z => z)) rfl
            have z4 : w6.cell? ⟨z, 4, none⟩ = some _ := Blk.cell (HBZ.out.kept (HK3.out.trans' HK6.out) (fun z => z)) rfl
            have z5 : w6.cell? ⟨z, 5, none⟩ = some _ := Blk.cell (HBZ.out.kept (HK3.out.trans' HK6.out) (fun z => z)) rfl
            clear HST HBV HK5
            cases B with
            | false =>
              have hj : J = 51 := by
                rcases HBQ.out with h | ⟨_, h⟩
                · cases h.1
                · rw [← HJ.out, ← HLF.out, h]
              subst hj
              go_wp2_with fail
              go_ret
              exact ⟨rfl, HKY.out⟩
            | true =>
              have hg : mget (xn, xep) M.lines = some was := by
                rcases HBQ.out with h | h
                · exact h.2.1
                · cases h.1
              have HJ2 : Hid ((if was.op.kind = 3 ∨ was.op.client ≠ ac ∨ was.op.seq ≠ as_ then 200 else 0 : Int) = J) := Lib.hid (by rw [← HJ.out, ← HLF.out, hg])
              clear hg HBQ HLOOK
              obtain ⟨okd, hokd⟩ : ∃ q, was.op.kind = q := ⟨_, rfl⟩
              obtain ⟨oc, hoc⟩ : ∃ q, was.op.client = q := ⟨_, rfl⟩
              obtain ⟨oq, hoq⟩ : ∃ q, was.op.seq = q := ⟨_, rfl⟩
              rw [hokd, hoc, hoq] at HJ2
              rw [hokd] at v2
              rw [hoc] at v4
              rw [hoq] at v5
              clear hokd hoc hoq
              by_cases k3 : okd = 3
              · have hj : J = 200 := by rw [← HJ2.out, if_pos (.inl k3)]
                subst hj
                have kb : (okd != 3) = false := by rw [k3]; rfl
                clear k3
                have hdn := fun w => Lib.hid (m_denied false w)
                go_wp2_with fail
                refine (hdn _).out.mono ?_
                rintro e w9 ⟨rfl, hk9⟩
                have HK9 := Lib.hid (HKY.out.trans' hk9)
                clear hk9 hdn
                go_wp2_with fail
                go_ret
                exact ⟨rfl, HK9.out⟩
              · have kb : (okd != 3) = true := bne_iff_ne.2 k3
                by_cases kc : oc = ac
                · have kcb : (oc == ac) = true := beq_iff_eq.2 kc
                  by_cases kq : oq = as_
                  · have hj : J = 0 := by rw [← HJ2.out, if_neg (by rintro (h | h | h); exact k3 h; exact h kc; exact h kq)]
                    subst hj
                    have kqb : (oq == as_) = true := beq_iff_eq.2 kq
                    clear k3 kc kq
                    have hdn := fun w => Lib.hid (m_denied true w)
                    go_wp2_with fail
                    refine (hdn _).out.mono ?_
                    rintro e w9 ⟨rfl, hk9⟩
                    have HK9 := Lib.hid (HKY.out.trans' hk9)
                    clear hk9 hdn
                    go_wp2_with fail
                    go_ret
                    exact ⟨rfl, HK9.out⟩
                  · have hj : J = 200 := by rw [← HJ2.out, if_pos (.inr (.inr kq))]
                    subst hj
                    have kqb : (oq == as_) = false := beq_eq_false_iff_ne.2 kq
                    clear k3 kc kq
                    have hdn := fun w => Lib.hid (m_denied false w)
                    go_wp2_with fail
                    refine (hdn _).out.mono ?_
                    rintro e w9 ⟨rfl, hk9⟩
                    have HK9 := Lib.hid (HKY.out.trans' hk9)
                    clear hk9 hdn
                    go_wp2_with fail
                    go_ret
                    exact ⟨rfl, HK9.out⟩
                · have hj : J = 200 := by rw [← HJ2.out, if_pos (.inr (.inl kc))]
                  subst hj
                  have kcb : (oc == ac) = false := beq_eq_false_iff_ne.2 kc
                  clear k3 kc
                  have hdn := fun w => Lib.hid (m_denied false w)
                  go_wp2_with fail
                  refine (hdn _).out.mono ?_
                  rintro e w9 ⟨rfl, hk9⟩
                  have HK9 := Lib.hid (HKY.out.trans' hk9)
                  clear hk9 hdn
                  go_wp2_with fail
                  go_ret
                  exact ⟨rfl, HK9.out⟩
          case inr =>
            go_upto_region 14 with fail
            clear y0 y1 y2 y3 z1 z2 z3 z4 z5
            obtain ⟨wd, hwd⟩ : ∃ v, wr.drew = v := ⟨_, rfl⟩
            have HKD : Hid (Kp No wr wd) := Lib.hid (by rw [← hwd]; exact (Kp.refl _ _).drew)
            have y0 : wd.cell? ⟨y, 0, none⟩ = some _ := Blk.cell (HBY.out.kept (HK3.out.trans' HKD.out) (fun z => z)) rfl
            have y1 : wd.cell? ⟨y, 1, none⟩ = some _ := Blk.cell (HBY.out.kept (HK3.out.trans' HKD.out) (fun z => z)) rfl
            have y2 : wd.cell? ⟨y, 2, none⟩ = some _ := Blk.cell (HBY.out.kept (HK3.out.trans' HKD.out) (fun z => z)) rfl
            have y3 : wd.cell? ⟨y, 3, none⟩ = some _ := Blk.cell (HBY.out.kept (HK3.out.trans' HKD.out) (fun z => z)) rfl
            have z1 : wd.cell? ⟨z, 1, none⟩ = some _ := Blk.cell (HBZ.out.kept (HK3.out.trans' HKD.out) (fun z => z)) rfl
            have z2 : wd.cell? ⟨z, 2, none⟩ = some _ := Blk.cell (HBZ.out.kept (HK3.out.trans' HKD.out) (fun z => z)) rfl
            have z3 : wd.cell? ⟨z, 3, none⟩ = some _ := Blk.cell (HBZ.out.kept (HK3.out.trans' HKD.out) (fun z => z)) rfl
            have z4 : wd.cell? ⟨z, 4, none⟩ = some _ := Blk.cell (HBZ.out.kept (HK3.out.trans' HKD.out) (fun z => z)) rfl
            have z5 : wd.cell? ⟨z, 5, none⟩ = some _ := Blk.cell (HBZ.out.kept (HK3.out.trans' HKD.out) (fun z => z)) rfl
            have k0 : wd.cell? ⟨m, 0, none⟩ = some _ := Blk.cell (HBM.out.kept HKD.out (fun z => z)) rfl
            have hl := HLOOK.out wd HKD.out
            refine Reg.wp_region_plan [⟨0, false, []⟩, ⟨1, false, []⟩, ⟨2, false, []⟩, ⟨3, false, []⟩, ⟨4, false, []⟩, ⟨5, false, []⟩, ⟨6, false, []⟩, ⟨7, false, []⟩, ⟨8, false, []⟩, ⟨9, false, []⟩, ⟨10, true, [1, 2, 3, 4, 5, 6, 8, 9]⟩, ⟨11, true, [9]⟩, ⟨12, false, []⟩] rfl (by kernel_rfl) ?_
            rw [hwd]
            clear hwd
            repeat (first | (refine Reg.look rfl rfl rfl (by go_simp; rfl) rfl ?_; go_simp) | (refine Reg.skip rfl rfl rfl ?_; go_simp))
            obtain ⟨v, hz⟩ : ∃ v, wd.heap.size = v := ⟨_, rfl⟩
            obtain ⟨w5, hw5⟩ : ∃ v, wd.alloc (.cells #[.int .i64 0, .int .i64 0, .int .i64 0, .int .i64 0, .int .i64 0, .int .i64 0, .string { data := #[] }, .int .i64 0, .slice none 0 0, .int .i64 0, .int .i64 0] 71) = v := ⟨_, rfl⟩
            have HBV : Hid (Blk w5 v 71 [.int .i64 0, .int .i64 0, .int .i64 0, .int .i64 0, .int .i64 0, .int .i64 0, .string { data := #[] }, .int .i64 0, .slice none 0 0, .int .i64 0, .int .i64 0]) := Lib.hid (by rw [← hw5, ← hz]; exact Blk.new wd _ _)
            have HK5 : Hid (Kp No wr w5) := Lib.hid (by rw [← hw5]; exact HKD.out.alloc _)
            have HZW : Hid (wr.heap.size ≤ v) := Lib.hid (by rw [← hz]; exact HKD.out.size)
            refine Reg.act rfl ?_
            go_wp2_with fail
            clear k0 hl hw5 hz
            clear y0 y1 y2 y3 z1 z2 z3 z4 z5
            have y0 : w5.cell? ⟨y, 0, none⟩ = some _ := Blk.cell (HBY.out.kept (HK3.out.trans' HK5.out) (fun z => z)) rfl
            have y1 : w5.cell? ⟨y, 1, none⟩ = some _ := Blk.cell (HBY.out.kept (HK3.out.trans' HK5.out) (fun z => z)) rfl
            have y2 : w5.cell? ⟨y, 2, none⟩ = some _ := Blk.cell (HBY.out.kept (HK3.out.trans' HK5.out) (fun z => z)) rfl
            have y3 : w5.cell? ⟨y, 3, none⟩ = some _ := Blk.cell (HBY.out.kept (HK3.out.trans' HK5.out) (fun z => z)) rfl
            have z1 : w5.cell? ⟨z, 1, none⟩ = some _ := Blk.cell (HBZ.out.kept (HK3.out.trans' HK5.out) (fun z => z)) rfl
            have z2 : w5.cell? ⟨z, 2, none⟩ = some _ := Blk.cell (HBZ.out.kept (HK3.out.trans' HK5.out) (fun z => z)) rfl
            have z3 : w5.cell? ⟨z, 3, none⟩ = some _ := Blk.cell (HBZ.out.kept (HK3.out.trans' HK5.out) (fun z => z)) rfl
            have z4 : w5.cell? ⟨z, 4, none⟩ = some _ := Blk.cell (HBZ.out.kept (HK3.out.trans' HK5.out) (fun z => z)) rfl
            have z5 : w5.cell? ⟨z, 5, none⟩ = some _ := Blk.cell (HBZ.out.kept (HK3.out.trans' HK5.out) (fun z => z)) rfl
            have k0 : w5.cell? ⟨m, 0, none⟩ = some _ := Blk.cell (HBM.out.kept HK5.out (fun z => z)) rfl
            have hl := HLOOK.out w5 HK5.out
            (refine ⟨?anew, ?_⟩; case anew => ((repeat (refine Reg.anew_cons rfl rfl (fun _ => by go_simp) ?_)); exact Reg.anew_nil))
            repeat (first | (refine Reg.look rfl rfl rfl (by go_simp; rfl) rfl ?_; go_simp) | (refine Reg.skip rfl rfl rfl ?_; go_simp))
            have hst := run_store_line w5 v 0 was A6 n6 c6 _ _ _ _ _ _ _ _ _ _ _ (Blk.cell HBV.out (i := 0) rfl) (Blk.cell HBV.out (i := 1) rfl) (Blk.cell HBV.out (i := 2) rfl) (Blk.cell HBV.out (i := 3) rfl) (Blk.cell HBV.out (i := 4) rfl) (Blk.cell HBV.out (i := 5) rfl) (Blk.cell HBV.out (i := 6) rfl) (Blk.cell HBV.out (i := 7) rfl) (Blk.cell HBV.out (i := 8) rfl) (Blk.cell HBV.out (i := 9) rfl) (Blk.cell HBV.out (i := 10) rfl) (Blk.fr HBV.out)
            obtain ⟨w6, hw6⟩ : ∃ x, wset w5 v 0 (was.cells (.slice A6 n6 c6)) = x := ⟨_, rfl⟩
            have hb6 := wset_blk (vs := was.cells (.slice A6 n6 c6)) (o := 0) HBV.out
            have hk6 : Kp (· = v) w5 (wset w5 v 0 (was.cells (.slice A6 n6 c6))) := wset_kp
            rw [hw6] at hst hb6 hk6
            have HB6 : Hid (Blk w6 v 71 [.int .i64 was.op.n, .int .i64 was.op.epoch, .int .i64 was.op.kind, .int .i64 was.op.site, .int .i64 was.op.client, .int .i64 was.op.seq, .string was.op.name, .int .i64 was.op.size, .slice A6 n6 c6, .int .i64 was.an, .int .i64 was.ae]) := Lib.hid hb6
            have HK6 : Hid (Kp No wr w6) := Lib.hid (HK5.out.trans hk6 (fun k hk e => by have := HZW.out; omega))
            have HST := Lib.hid hst
            clear hst hb6 hk6 hw6 k0 hl
            clear y0 y1 y2 y3 z1 z2 z3 z4 z5
            refine Reg.act rfl ?_
            go_wp2_with (refine wpl_store (by first | rfl | go_simp) 71 _ _ rfl _ _ (by go_simp) (by go_simp) HST.out ?_; go_simp)
            (refine ⟨?anew, ?_⟩; case anew => ((repeat (refine Reg.anew_cons rfl rfl (fun _ => by go_simp) ?_)); exact Reg.anew_nil))
            repeat (first | (refine Reg.look rfl rfl rfl (by go_simp; rfl) rfl ?_; go_simp) | (refine Reg.skip rfl rfl rfl ?_; go_simp))
            (refine Reg.done ?_; simp only [Exit.then])
            have HKY := Lib.hid (HKZ.out.trans' HK6.out)
            have v2 : w6.cell? ⟨v, 2, none⟩ = some _ := Blk.cell HB6.out rfl
            have v4 : w6.cell? ⟨v, 4, none⟩ = some _ := Blk.cell HB6.out rfl
            have v5 : w6.cell? ⟨v, 5, none⟩ = some _ := Blk.cell HB6.out rfl
            have y0 : w6.cell? ⟨y, 0, none⟩ = some _ := Blk.cell (HBY.out.kept (HK3.out.trans' HK6.out) (fun z => z)) rfl
            have y1 : w6.cell? ⟨y, 1, none⟩ = some _ := Blk.cell (HBY.out.kept (HK3.out.trans' HK6.out) (fun z => z)) rfl
            have y2 : w6.cell? ⟨y, 2, none⟩ = some _ := Blk.cell (HBY.out.kept (HK3.out.trans' HK6.out) (fun z => z)) rfl
            have y3 : w6.cell? ⟨y, 3, none⟩ = some _ := Blk.cell (HBY.out.kept (HK3.out.trans' HK6.out) (fun z => z)) rfl
            have z1 : w6.cell? ⟨z, 1, none⟩ = some _ := Blk.cell (HBZ.out.kept (HK3.out.trans' HK6.out) (fun z => z)) rfl
            have z2 : w6.cell? ⟨z, 2, none⟩ = some _ := Blk.cell (HBZ.out.kept (HK3.out.trans' HK6.out) (fun z => z)) rfl
            have z3 : w6.cell? ⟨z, 3, none⟩ = some _ := Blk.cell (HBZ.out.kept (HK3.out.trans' HK6.out) (fun z => z)) rfl
            have z4 : w6.cell? ⟨z, 4, none⟩ = some _ := Blk.cell (HBZ.out.kept (HK3.out.trans' HK6.out) (fun z => z)) rfl
            have z5 : w6.cell? ⟨z, 5, none⟩ = some _ := Blk.cell (HBZ.out.kept (HK3.out.trans' HK6.out) (fun z => z)) rfl
            clear HST HBV HK5
            cases B with
            | false =>
              have hj : J = 51 := by
                rcases HBQ.out with h | ⟨_, h⟩
                · cases h.1
                · rw [← HJ.out, ← HLF.out, h]
              subst hj
              go_wp2_with fail
              go_ret
              exact ⟨rfl, HKY.out⟩
            | true =>
              have hg : mget (xn, xep) M.lines = some was := by
                rcases HBQ.out with h | h
                · exact h.2.1
                · cases h.1
              have HJ2 : Hid ((if was.op.kind = 3 ∨ was.op.client ≠ ac ∨ was.op.seq ≠ as_ then 200 else 0 : Int) = J) := Lib.hid (by rw [← HJ.out, ← HLF.out, hg])
              clear hg HBQ HLOOK
              obtain ⟨okd, hokd⟩ : ∃ q, was.op.kind = q := ⟨_, rfl⟩
              obtain ⟨oc, hoc⟩ : ∃ q, was.op.client = q := ⟨_, rfl⟩
              obtain ⟨oq, hoq⟩ : ∃ q, was.op.seq = q := ⟨_, rfl⟩
              rw [hokd, hoc, hoq] at HJ2
              rw [hokd] at v2
              rw [hoc] at v4
              rw [hoq] at v5
              clear hokd hoc hoq
              by_cases k3 : okd = 3
              · have hj : J = 200 := by rw [← HJ2.out, if_pos (.inl k3)]
                subst hj
                have kb : (okd != 3) = false := by rw [k3]; rfl
                clear k3
                have hdn := fun w => Lib.hid (m_denied false w)
                go_wp2_with fail
                refine (hdn _).out.mono ?_
                rintro e w9 ⟨rfl, hk9⟩
                have HK9 := Lib.hid (HKY.out.trans' hk9)
                clear hk9 hdn
                go_wp2_with fail
                go_ret
                exact ⟨rfl, HK9.out⟩
              · have kb : (okd != 3) = true := bne_iff_ne.2 k3
                by_cases kc : oc = ac
                · have kcb : (oc == ac) = true := beq_iff_eq.2 kc
                  by_cases kq : oq = as_
                  · have hj : J = 0 := by rw [← HJ2.out, if_neg (by rintro (h | h | h); exact k3 h; exact h kc; exact h kq)]
                    subst hj
                    have kqb : (oq == as_) = true := beq_iff_eq.2 kq
                    clear k3 kc kq
                    have hdn := fun w => Lib.hid (m_denied true w)
                    go_wp2_with fail
                    refine (hdn _).out.mono ?_
                    rintro e w9 ⟨rfl, hk9⟩
                    have HK9 := Lib.hid (HKY.out.trans' hk9)
                    clear hk9 hdn
                    go_wp2_with fail
                    go_ret
                    exact ⟨rfl, HK9.out⟩
                  · have hj : J = 200 := by rw [← HJ2.out, if_pos (.inr (.inr kq))]
                    subst hj
                    have kqb : (oq == as_) = false := beq_eq_false_iff_ne.2 kq
                    clear k3 kc kq
                    have hdn := fun w => Lib.hid (m_denied false w)
                    go_wp2_with fail
                    refine (hdn _).out.mono ?_
                    rintro e w9 ⟨rfl, hk9⟩
                    have HK9 := Lib.hid (HKY.out.trans' hk9)
                    clear hk9 hdn
                    go_wp2_with fail
                    go_ret
                    exact ⟨rfl, HK9.out⟩
                · have hj : J = 200 := by rw [← HJ2.out, if_pos (.inr (.inl kc))]
                  subst hj
                  have kcb : (oc == ac) = false := beq_eq_false_iff_ne.2 kc
                  clear k3 kc
                  have hdn := fun w => Lib.hid (m_denied false w)
                  go_wp2_with fail
                  refine (hdn _).out.mono ?_
                  rintro e w9 ⟨rfl, hk9⟩
                  have HK9 := Lib.hid (HKY.out.trans' hk9)
                  clear hk9 hdn
                  go_wp2_with fail
                  go_ret
                  exact ⟨rfl, HK9.out⟩
        case neg =>
        have kb1 : (ak == 1) = false := beq_eq_false_iff_ne.2 (fun h => h12 (.inl h))
        have kb2 : (ak == 2) = false := beq_eq_false_iff_ne.2 (fun h => h12 (.inr h))
        by_cases h3 : ak = 3
        case pos =>
          subst h3
          have he : xe = 0 := by
            rcases HGO.out with h | ⟨_, h, _⟩
            · exact h
            · cases h
          rw [if_pos he, if_neg h12, if_pos rfl] at HJ
          clear he kb5 kb6 kb1 kb2 h12 h5 h6 HPU
          cases TB with
          | false =>
            have hj : J = 51 := by rw [← HJ.out, if_neg (by simp)]
            subst hj
            go_wp2_with fail
            go_ret
            exact ⟨rfl, HKZ.out⟩
          | true =>
            rw [if_pos rfl] at HJ
            go_upto_region 23 with fail
            obtain ⟨wd, hwd⟩ : ∃ v, w3.drew = v := ⟨_, rfl⟩
            have hkd : Kp No w3 wd := by rw [← hwd]; exact (Kp.refl _ _).drew
            obtain ⟨lv', hm, hkey, _⟩ := HMP.out.kept (HK3a.out.trans' hkd) (fun z => z) (fun _ _ _ z => z)
            have hll : lv'.length ≤ 1000000 := by
              have h1 := congrArg List.length hkey
              simp only [List.length_map] at h1
              have := HVL.out
              omega
            have hso := m_sorted_Op b lv' wd hm (fun q hq => HSZ.out q.1 (by rw [← hkey]; exact List.mem_map.2 ⟨q, hq, rfl⟩)) hll
            rw [hkey] at hso
            have HKS := Lib.hid (m_keys_Op b wd)
            have HKD := Lib.hid hkd
            obtain ⟨N, hN⟩ : ∃ N, sortedN (V.map (·.1)) = N := ⟨_, rfl⟩
            rw [hN] at hso HJ
            have HSO := Lib.hid hso
            clear y0 y1 y2 y3 z1 z2 z3 z4 z5
            have y0 : wd.cell? ⟨y, 0, none⟩ = some _ := Blk.cell (HBY.out.kept (HK3.out.trans' hkd) (fun z => z)) rfl
            have y1 : wd.cell? ⟨y, 1, none⟩ = some _ := Blk.cell (HBY.out.kept (HK3.out.trans' hkd) (fun z => z)) rfl
            have y2 : wd.cell? ⟨y, 2, none⟩ = some _ := Blk.cell (HBY.out.kept (HK3.out.trans' hkd) (fun z => z)) rfl
            have y3 : wd.cell? ⟨y, 3, none⟩ = some _ := Blk.cell (HBY.out.kept (HK3.out.trans' hkd) (fun z => z)) rfl
            have z1 : wd.cell? ⟨z, 1, none⟩ = some _ := Blk.cell (HBZ.out.kept (HK3.out.trans' hkd) (fun z => z)) rfl
            have z2 : wd.cell? ⟨z, 2, none⟩ = some _ := Blk.cell (HBZ.out.kept (HK3.out.trans' hkd) (fun z => z)) rfl
            have z3 : wd.cell? ⟨z, 3, none⟩ = some _ := Blk.cell (HBZ.out.kept (HK3.out.trans' hkd) (fun z => z)) rfl
            have z4 : wd.cell? ⟨z, 4, none⟩ = some _ := Blk.cell (HBZ.out.kept (HK3.out.trans' hkd) (fun z => z)) rfl
            have z5 : wd.cell? ⟨z, 5, none⟩ = some _ := Blk.cell (HBZ.out.kept (HK3.out.trans' hkd) (fun z => z)) rfl
            clear hkd hm hkey hll hso hN HMP HSZ HVL HIS HLD HBU
            refine Reg.wp_region_plan [⟨0, false, []⟩, ⟨3, false, []⟩, ⟨4, false, []⟩, ⟨1, true, [3, 4]⟩, ⟨2, true, [3, 4]⟩, ⟨5, true, []⟩, ⟨6, true, []⟩, ⟨7, false, []⟩] rfl (by kernel_rfl) ?_
            rw [hwd]
            clear hwd
            repeat (first | (refine Reg.look rfl rfl rfl (by go_simp; rfl) rfl ?_; go_simp) | (refine Reg.skip rfl rfl rfl ?_; go_simp))
            refine Reg.act rfl ?_
            go_wp2_with fail
            refine HKS.out.mono ?_
            rintro e w4 ⟨rfl, hw4⟩
            have hk4 : Kp No wd w4 := by rw [hw4]; exact (Kp.refl _ _).alloc _
            have HSO4 := HSO
            rw [← hw4] at HSO4
            have HK4 : Hid (Kp No wa w4) := Lib.hid (HK3.out.trans' (HKD.out.trans' hk4))
            clear hw4 hk4 HSO HKS
            clear y0 y1 y2 y3 z1 z2 z3 z4 z5
            have y0 : w4.cell? ⟨y, 0, none⟩ = some _ := Blk.cell (HBY.out.kept HK4.out (fun z => z)) rfl
            have y1 : w4.cell? ⟨y, 1, none⟩ = some _ := Blk.cell (HBY.out.kept HK4.out (fun z => z)) rfl
            have y2 : w4.cell? ⟨y, 2, none⟩ = some _ := Blk.cell (HBY.out.kept HK4.out (fun z => z)) rfl
            have y3 : w4.cell? ⟨y, 3, none⟩ = some _ := Blk.cell (HBY.out.kept HK4.out (fun z => z)) rfl
            have z1 : w4.cell? ⟨z, 1, none⟩ = some _ := Blk.cell (HBZ.out.kept HK4.out (fun z => z)) rfl
            have z2 : w4.cell? ⟨z, 2, none⟩ = some _ := Blk.cell (HBZ.out.kept HK4.out (fun z => z)) rfl
            have z3 : w4.cell? ⟨z, 3, none⟩ = some _ := Blk.cell (HBZ.out.kept HK4.out (fun z => z)) rfl
            have z4 : w4.cell? ⟨z, 4, none⟩ = some _ := Blk.cell (HBZ.out.kept HK4.out (fun z => z)) rfl
            have z5 : w4.cell? ⟨z, 5, none⟩ = some _ := Blk.cell (HBZ.out.kept HK4.out (fun z => z)) rfl
            go_wp2_with fail
            (refine ⟨?anew, ?_⟩; case anew => ((repeat (refine Reg.anew_cons rfl rfl (fun _ => by go_simp) ?_)); exact Reg.anew_nil))
            repeat (first | (refine Reg.look rfl rfl rfl (by go_simp; rfl) rfl ?_; go_simp) | (refine Reg.skip rfl rfl rfl ?_; go_simp))
            refine Reg.act rfl ?_
            go_wp2_with fail
            refine HSO4.out.mono ?_
            rintro e w5 ⟨A5, c5, rfl, hown, hk5⟩
            have HR5 := Lib.hid hown.readFrom
            have HK5 : Hid (Kp No wa w5) := Lib.hid (HK3.out.trans' (HKD.out.trans' hk5))
            clear hown hk5 HSO4
            clear y0 y1 y2 y3 z1 z2 z3 z4 z5
            have y0 : w5.cell? ⟨y, 0, none⟩ = some _ := Blk.cell (HBY.out.kept HK5.out (fun z => z)) rfl
            have y1 : w5.cell? ⟨y, 1, none⟩ = some _ := Blk.cell (HBY.out.kept HK5.out (fun z => z)) rfl
            have y2 : w5.cell? ⟨y, 2, none⟩ = some _ := Blk.cell (HBY.out.kept HK5.out (fun z => z)) rfl
            have y3 : w5.cell? ⟨y, 3, none⟩ = some _ := Blk.cell (HBY.out.kept HK5.out (fun z => z)) rfl
            have z1 : w5.cell? ⟨z, 1, none⟩ = some _ := Blk.cell (HBZ.out.kept HK5.out (fun z => z)) rfl
            have z2 : w5.cell? ⟨z, 2, none⟩ = some _ := Blk.cell (HBZ.out.kept HK5.out (fun z => z)) rfl
            have z3 : w5.cell? ⟨z, 3, none⟩ = some _ := Blk.cell (HBZ.out.kept HK5.out (fun z => z)) rfl
            have z4 : w5.cell? ⟨z, 4, none⟩ = some _ := Blk.cell (HBZ.out.kept HK5.out (fun z => z)) rfl
            have z5 : w5.cell? ⟨z, 5, none⟩ = some _ := Blk.cell (HBZ.out.kept HK5.out (fun z => z)) rfl
            go_wp2_with fail
            (refine ⟨?anew, ?_⟩; case anew => ((repeat (refine Reg.anew_cons rfl rfl (fun _ => by go_simp) ?_)); exact Reg.anew_nil))
            repeat (first | (refine Reg.look rfl rfl rfl (by go_simp; rfl) rfl ?_; go_simp) | (refine Reg.skip rfl rfl rfl ?_; go_simp))
            refine Reg.act rfl ?_
            go_wp2_with fail
            refine (c_equalS N xs A5 A c5 c w5 _ _ HR5.out (HXR.out w5 HK5.out)).mono ?_
            rintro e w6 ⟨rfl, hk6⟩
            have HK6 : Hid (Kp No wa w6) := Lib.hid (HK5.out.trans' hk6)
            obtain ⟨Q, hQ⟩ : ∃ Q, decide (N = xs) = Q := ⟨_, rfl⟩
            have hR : (if Q = true then 0 else 200 : Int) = J := by rw [← HJ.out, ← hQ]; simp
            try rw [hQ]
            have hd := m_denied Q w6
            rw [hR] at hd
            have HD := Lib.hid hd
            clear hk6 hQ hR hd HR5
            clear y0 y1 y2 y3 z1 z2 z3 z4 z5
            go_wp2_with fail
            (refine ⟨?anew, ?_⟩; case anew => ((repeat (refine Reg.anew_cons rfl rfl (fun _ => by go_simp) ?_)); exact Reg.anew_nil))
            repeat (first | (refine Reg.look rfl rfl rfl (by go_simp; rfl) rfl ?_; go_simp) | (refine Reg.skip rfl rfl rfl ?_; go_simp))
            refine Reg.act rfl ?_
            go_wp2_with fail
            refine HD.out.mono ?_
            rintro e w7 ⟨rfl, hk7⟩
            have HK7 := Lib.hid (HKA.out.trans' (HK6.out.trans' hk7))
            clear hk7
            go_wp2_with fail
            (refine ⟨?anew, ?_⟩; case anew => ((repeat (refine Reg.anew_cons rfl rfl (fun _ => by go_simp) ?_)); exact Reg.anew_nil))
            repeat (first | (refine Reg.look rfl rfl rfl (by go_simp; rfl) rfl ?_; go_simp) | (refine Reg.skip rfl rfl rfl ?_; go_simp))
            (refine Reg.done ?_; simp only [Exit.then])
            go_wp2_with fail
            go_ret
            exact ⟨rfl, HK7.out⟩
        case neg =>
        have kb3 : (ak == 3) = false := beq_eq_false_iff_ne.2 h3
        by_cases h4 : ak = 4
        case neg =>
          have kb4 : (ak == 4) = false := beq_eq_false_iff_ne.2 h4
          have he : xe = 0 := by
            rcases HGO.out with h | ⟨_, h, _⟩
            · exact h
            · exact absurd h h4
          have hj : J = 200 := by rw [← HJ.out, if_pos he, if_neg h12, if_neg h3, if_neg h4, if_neg (by omega)]
          subst hj
          clear he h12 h3 h4 h5 h6 HPU
          go_wp2_with fail
          go_ret
          exact ⟨rfl, HKZ.out⟩
        case pos =>
        subst h4
        clear kb5 kb6 kb1 kb2 kb3 h12 h3 h5 h6
        cases TB with
        | false =>
          have hj : J = 51 := by
            rw [← HJ.out]
            rcases HGO.out with h | ⟨h, _, _⟩
            · rw [if_pos h, if_neg (by omega), if_neg (by omega), if_pos rfl, if_neg (by simp)]
            · rw [if_neg (by omega), if_pos ⟨h, rfl⟩, if_neg (by simp)]
          subst hj
          clear HPU
          go_wp2_with fail
          go_ret
          exact ⟨rfl, HKZ.out⟩
        | true =>
          cases NB with
          | true =>
            have he : xe = 123 := by
              rcases HNB.out with ⟨_, h, _⟩ | ⟨h, _⟩
              · exact h
              · cases h
            rw [if_neg (by omega), if_pos ⟨he, rfl⟩, if_pos rfl] at HJ
            clear he HPU
            cases IS with
            | false =>
              have hj : J = 0 := by
                rcases HIS.out with h | ⟨_, h⟩
                · cases h.1
                · rw [← HJ.out, h]; rfl
              subst hj
              have hdn := fun w => Lib.hid (m_denied true w)
              go_wp2_with fail
              refine (hdn _).out.mono ?_
              rintro e w9 ⟨rfl, hk9⟩
              have HK9 := Lib.hid (HKZ.out.trans' hk9)
              clear hk9 hdn
              go_wp2_with fail
              go_ret
              exact ⟨rfl, HK9.out⟩
            | true =>
              have hj : J = 200 := by
                rcases HIS.out with ⟨_, h, _⟩ | ⟨h, _⟩
                · rw [← HJ.out, h]; rfl
                · cases h
              subst hj
              have hdn := fun w => Lib.hid (m_denied false w)
              go_wp2_with fail
              refine (hdn _).out.mono ?_
              rintro e w9 ⟨rfl, hk9⟩
              have HK9 := Lib.hid (HKZ.out.trans' hk9)
              clear hk9 hdn
              go_wp2_with fail
              go_ret
              exact ⟨rfl, HK9.out⟩
          | false =>
            have he : xe = 0 := by
              rcases HGO.out with h | ⟨_, _, h⟩
              · exact h
              · cases h
            rw [if_pos he, if_neg (by omega), if_neg (by omega), if_pos rfl, if_pos rfl] at HJ
            clear he
            cases IS with
            | false =>
              have hj : J = 200 := by
                rcases HIS.out with h | ⟨_, h⟩
                · cases h.1
                · rw [← HJ.out, h]
              subst hj
              clear HPU
              have hdn := fun w => Lib.hid (m_denied false w)
              go_wp2_with fail
              refine (hdn _).out.mono ?_
              rintro e w9 ⟨rfl, hk9⟩
              have HK9 := Lib.hid (HKZ.out.trans' hk9)
              clear hk9 hdn
              go_wp2_with fail
              go_ret
              exact ⟨rfl, HK9.out⟩
            | true =>
              obtain ⟨hg, rfl, hr⟩ : mget anm V = some o ∧ n2 = o.hashes.length ∧ Rp.str.slice.R w2 _ [.slice A2 n2 c2] o.hashes := by
                rcases HIS.out with h | h
                · exact h.2
                · cases h.1
              have hpw := HPU.out o xd A2 c2 _ w3 HK3.out HNUM.out.2.2.2.2 (Rp.str.slice.keptNo hr HK3a.out)
              unfold opV at hpw
              have HPW := Lib.hid hpw
              obtain ⟨Q, hQ⟩ : ∃ Q, P o xd = Q := ⟨_, rfl⟩
              rw [hQ] at HPW
              have hR : (if Q = true then 0 else 200 : Int) = J := by rw [← HJ.out, hg]; simp only; rw [hQ]
              have HRR := Lib.hid hR
              clear hg hr hpw hQ hR HPU
              go_wp2_with (refine wpl_load (by first | rfl | go_simp) 58 _ rfl _ _ rfl HLD.out ?_; go_simp)
              refine HPW.out.mono ?_
              rintro e w4 ⟨rfl, hk4⟩
              have HK5 := Lib.hid (HKZ.out.trans' hk4)
              have hd := m_denied Q w4
              rw [HRR.out] at hd
              have HD := Lib.hid hd
              clear y0 y1 y2 y3 z1 z2 z3 z4 z5
              clear hk4 hd
              go_wp2_with fail
              refine HD.out.mono ?_
              rintro e w5 ⟨rfl, hk5⟩
              have HK6 := Lib.hid (HK5.out.trans' hk5)
              clear hk5
              go_wp2_with fail
              go_ret
              exact ⟨rfl, HK6.out⟩
end Go.Proofs.Ytamfgmlhopjppaa
