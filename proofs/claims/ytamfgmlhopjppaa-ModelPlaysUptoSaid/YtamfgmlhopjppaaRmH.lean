/-
  The document's model: Judge (of whatever 'bytes' says).
-/
import Derived.Test.YtamfgmlhopjppaaRmG
import Derived.Test.YtamfgmlhopjppaaGN
namespace Go.Proofs.Ytamfgmlhopjppaa
open Go.RowKit Go.ChangeShapes Go.WideShapes Go.ChangeAt

/-- what may be answered; P: is this among a put's bytes? -/
def judgeP (M : MV) (P : OpL → ByteArray → Bool) (a : AskL) (x : RepL) : Int :=
  if x.err = 0 then
    if a.kind = 1 ∨ a.kind = 2 then
      match mget (x.an, x.ae) M.lines with
      | none => 51
      | some l => if l.op.kind = 3 ∨ l.op.client ≠ a.client ∨ l.op.seq ≠ a.seq then 200 else 0
    else if a.kind = 3 then
      if (pathM M (x.an, x.ae)).isSome = true then if namesM M (x.an, x.ae) = x.names then 0 else 200 else 51
    else if a.kind = 4 then
      if (pathM M (x.an, x.ae)).isSome = true then
        match findM M (x.an, x.ae) a.name with
        | none => 200
        | some o => if P o x.data = true then 0 else 200
      else 51
    else if a.kind = 5 ∨ a.kind = 6 then 0 else 200
  else if x.err = 123 ∧ a.kind = 4 then
    if (pathM M (x.an, x.ae)).isSome = true then if (findM M (x.an, x.ae) a.name).isSome = true then 200 else 0 else 51
  else if x.names ≠ [] ∨ x.data ≠ ⟨#[]⟩ then 200 else 0
def repV (x : RepL) (nv lv : Value) : Value := .agg #[.int .i64 x.ask, .int .i64 x.err, .int .i64 x.an, .int .i64 x.ae, nv, .string x.data, lv]
theorem empty_beq (d : ByteArray) : (d.toList == []) = decide (d = ⟨#[]⟩) := by
  have h := bytes_list_beq d ⟨#[]⟩
  have e : (⟨#[]⟩ : ByteArray).toList = [] := by decide +kernel
  rw [e] at h
  exact h
set_option maxRecDepth 100000 in
set_option maxHeartbeats 40000000 in
theorem r_judge26 {M : MV} {R : RV} (hrf : RefOk M R) (P : OpL → ByteArray → Bool) (r : Nat) (F : Nat → Prop) (w : World) (hM : RMAt w r R F) (a : AskL) (x : RepL) (hxn : x.nums) (A : Option Addr) (c : Nat) (lv : Value)
    (hP : ∀ (o : OpL) (d : ByteArray) (A' : Option Addr) (c' : Nat) (S : Nat → Prop) w', Kp No w w' → d.size ≤ maxLen → Rp.str.slice.R w' S [.slice A' o.hashes.length c'] o.hashes →
      Calls Try.prog 38 #[.pointer (some ⟨r, 0, none⟩), opV o (.slice A' o.hashes.length c'), .string d] w' fun e w'' => e = .returned (.bool (P o d)) ∧ Kp No w' w'')
    (S : Nat → Prop) (hx : Rp.str.slice.R w S [.slice A x.names.length c] x.names) :
    Calls Try.prog 13 #[.pointer (some ⟨r, 0, none⟩), askV a, repV x (.slice A x.names.length c) lv] w fun e w' => e = .returned (.int .i64 (judgeP M P a x)) ∧ Kp No w w' := by
  obtain ⟨wb, hwb⟩ : ∃ v, w.alloc (.cells #[.int .i64 a.kind, .int .i64 a.client, .int .i64 a.seq, .string a.name, .string a.data, .int .i64 a.mode, .int .i64 a.lag] 34) = v := ⟨_, rfl⟩
  obtain ⟨y, hy⟩ : ∃ v, w.heap.size = v := ⟨_, rfl⟩
  have hkb : Kp No w wb := by rw [← hwb]; exact (Kp.refl _ _).alloc _
  have hbb : Blk wb y 34 [.int .i64 a.kind, .int .i64 a.client, .int .i64 a.seq, .string a.name, .string a.data, .int .i64 a.mode, .int .i64 a.lag] := by rw [← hwb, ← hy]; exact Blk.new w _ _
  obtain ⟨z, hz⟩ : ∃ v, wb.heap.size = v := ⟨_, rfl⟩
  obtain ⟨wa, hwa⟩ : ∃ v, wb.alloc (.cells #[.int .i64 x.ask, .int .i64 x.err, .int .i64 x.an, .int .i64 x.ae, .slice A x.names.length c, .string x.data, lv] 40) = v := ⟨_, rfl⟩
  have hkx : Kp No wb wa := by rw [← hwa]; exact (Kp.refl _ _).alloc _
  have HBZ : Hid (Blk wa z 40 [.int .i64 x.ask, .int .i64 x.err, .int .i64 x.an, .int .i64 x.ae, .slice A x.names.length c, .string x.data, lv]) := Lib.hid (by rw [← hwa, ← hz]; exact Blk.new wb _ _)
  have HBY := Lib.hid (hbb.kept hkx (fun z => z))
  have HKA := Lib.hid (hkb.trans' hkx)
  have HMA := Lib.hid (fun w' (hk : Kp No wa w') => hM.keptNo (HKA.out.trans' hk))
  have HPA := Lib.hid (fun w' (hk : Kp No wa w') => r_path26' hrf (x.an, x.ae) r F w' (HMA.out w' hk))
  have HFA := Lib.hid (fun w' (hk : Kp No wa w') => r_fnd26 hrf (x.an, x.ae) a.name r F w' (HMA.out w' hk))
  have HNA := Lib.hid (fun w' (hk : Kp No wa w') => r_names26 hrf (x.an, x.ae) r F w' (HMA.out w' hk))
  have HFI := Lib.hid (fun w' (hk : Kp No wa w') => r_find26 (x.an, x.ae) r R F w' (HMA.out w' hk) hrf.len)
  have HPU := Lib.hid (fun o d A' c' S w' (hk : Kp No wa w') => hP o d A' c' S w' (HKA.out.trans' hk))
  have HXR := Lib.hid (fun w' (hk : Kp No wa w') => Rp.str.slice.keptNo hx (HKA.out.trans' hk))
  rw [← hrf.same (x.an, x.ae)] at HFI
  obtain ⟨J, hJ⟩ : ∃ J, judgeP M P a x = J := ⟨_, rfl⟩
  rw [hJ]
  have HJ := Lib.hid hJ
  unfold judgeP at HJ
  obtain ⟨TB, hTB⟩ : ∃ v, (pathM M (x.an, x.ae)).isSome = v := ⟨_, rfl⟩
  obtain ⟨LF, hLF⟩ : ∃ v, mget (x.an, x.ae) M.lines = v := ⟨_, rfl⟩
  obtain ⟨FF, hFF⟩ : ∃ v, findM M (x.an, x.ae) a.name = v := ⟨_, rfl⟩
  obtain ⟨NN, hNN⟩ : ∃ v, namesM M (x.an, x.ae) = v := ⟨_, rfl⟩
  obtain ⟨PD, hPD⟩ : ∃ v, pathD M (x.an, x.ae) = v := ⟨_, rfl⟩
  rw [hTB, hLF, hFF, hNN] at HJ
  rw [hTB, hPD] at HPA
  rw [hLF] at HFI
  rw [hFF] at HFA
  rw [hNN, hTB] at HNA
  have HNUM := Lib.hid hxn
  unfold askV repV
  clear hkb hbb hkx hM hrf hP hx hJ hTB hLF hFF hNN hPD hxn
  obtain ⟨ak, ac, as_, anm, ad, am, al⟩ := a
  obtain ⟨xk, xe, xn, xep, xs, xd, xl⟩ := x
  simp only at HJ HPA HFI HFA HNA HXR HBY HBZ ⊢
  go_enter Try.func13, Try.ntmps13
  go_upto_region 1 with fail
  try rw [hwb]
  try rw [hwa]
  try rw [hy]
  try rw [hz]
  clear hwb hwa hy hz
  have y0 : wa.cell? ⟨y, 0, none⟩ = some _ := Blk.cell (HBY.out.kept (Kp.refl No wa) (fun z => z)) rfl
  have y1 : wa.cell? ⟨y, 1, none⟩ = some _ := Blk.cell (HBY.out.kept (Kp.refl No wa) (fun z => z)) rfl
  have y2 : wa.cell? ⟨y, 2, none⟩ = some _ := Blk.cell (HBY.out.kept (Kp.refl No wa) (fun z => z)) rfl
  have y3 : wa.cell? ⟨y, 3, none⟩ = some _ := Blk.cell (HBY.out.kept (Kp.refl No wa) (fun z => z)) rfl
  have z1 : wa.cell? ⟨z, 1, none⟩ = some _ := Blk.cell (HBZ.out.kept (Kp.refl No wa) (fun z => z)) rfl
  have z2 : wa.cell? ⟨z, 2, none⟩ = some _ := Blk.cell (HBZ.out.kept (Kp.refl No wa) (fun z => z)) rfl
  have z3 : wa.cell? ⟨z, 3, none⟩ = some _ := Blk.cell (HBZ.out.kept (Kp.refl No wa) (fun z => z)) rfl
  have z4 : wa.cell? ⟨z, 4, none⟩ = some _ := Blk.cell (HBZ.out.kept (Kp.refl No wa) (fun z => z)) rfl
  have z5 : wa.cell? ⟨z, 5, none⟩ = some _ := Blk.cell (HBZ.out.kept (Kp.refl No wa) (fun z => z)) rfl
  unfold spotV at HPA HFI HFA HNA
  go_wp2_with fail
  refine (HPA.out wa (Kp.refl _ _)).mono ?_
  rintro e w2 ⟨⟨A2, c2, rfl, _⟩, hk2⟩
  have HK2 := Lib.hid hk2
  clear hk2 HPA
  clear y0 y1 y2 y3 z1 z2 z3 z4 z5
  have y0 : w2.cell? ⟨y, 0, none⟩ = some _ := Blk.cell (HBY.out.kept HK2.out (fun z => z)) rfl
  have y1 : w2.cell? ⟨y, 1, none⟩ = some _ := Blk.cell (HBY.out.kept HK2.out (fun z => z)) rfl
  have y2 : w2.cell? ⟨y, 2, none⟩ = some _ := Blk.cell (HBY.out.kept HK2.out (fun z => z)) rfl
  have y3 : w2.cell? ⟨y, 3, none⟩ = some _ := Blk.cell (HBY.out.kept HK2.out (fun z => z)) rfl
  have z1 : w2.cell? ⟨z, 1, none⟩ = some _ := Blk.cell (HBZ.out.kept HK2.out (fun z => z)) rfl
  have z2 : w2.cell? ⟨z, 2, none⟩ = some _ := Blk.cell (HBZ.out.kept HK2.out (fun z => z)) rfl
  have z3 : w2.cell? ⟨z, 3, none⟩ = some _ := Blk.cell (HBZ.out.kept HK2.out (fun z => z)) rfl
  have z4 : w2.cell? ⟨z, 4, none⟩ = some _ := Blk.cell (HBZ.out.kept HK2.out (fun z => z)) rfl
  have z5 : w2.cell? ⟨z, 5, none⟩ = some _ := Blk.cell (HBZ.out.kept HK2.out (fun z => z)) rfl
  have HKW : Hid (Kp No w w2) := Lib.hid (HKA.out.trans' HK2.out)
  by_cases he : xe = 0
  case neg =>
    rw [if_neg he] at HJ
    have eb : (xe == 0) = false := beq_eq_false_iff_ne.2 he
    clear he HFI HNA HPU
    by_cases h4 : xe = 123 ∧ ak = 4
    case pos =>
      rw [if_pos h4] at HJ
      obtain ⟨rfl, rfl⟩ := h4
      clear eb
      cases TB with
      | false =>
        have hj : J = 51 := by rw [← HJ.out, if_neg (by simp)]
        subst hj
        go_wp2_with fail
        go_ret
        exact ⟨rfl, HKW.out⟩
      | true =>
        rw [if_pos rfl] at HJ
        go_wp2_with fail
        refine (HFA.out w2 HK2.out).mono ?_
        rintro e w3 ⟨A3, c3, rfl, _, hk3⟩
        have HKZ := Lib.hid (HKW.out.trans' hk3)
        clear hk3 HFA
        clear y0 y1 y2 y3 z1 z2 z3 z4 z5
        cases FF with
        | none =>
          have hj : J = 0 := by rw [← HJ.out]; rfl
          subst hj
          unfold opV zeroO
          go_wp2_with fail
          go_ret
          exact ⟨rfl, HKZ.out.alloc _⟩
        | some o =>
          have hj : J = 200 := by rw [← HJ.out]; rfl
          subst hj
          unfold opV
          go_wp2_with fail
          go_ret
          exact ⟨rfl, HKZ.out.alloc _⟩
    case neg =>
      rw [if_neg h4] at HJ
      have HB : (((xe == 123) = true ∧ (ak == 4) = false) ∨ (xe == 123) = false) := by
        by_cases h : xe = 123
        · exact .inl ⟨beq_iff_eq.2 h, beq_eq_false_iff_ne.2 (fun h2 => h4 ⟨h, h2⟩)⟩
        · exact .inr (beq_eq_false_iff_ne.2 h)
      clear h4 HFA
      go_upto_region 30 with fail
      go_cut [159] (fun bv wx => bv = .bool false ∧ wx = w2)
      case first =>
        rcases HB with ⟨h, h'⟩ | h
        · go_wp2_with fail
          go_meet
          exact ⟨rfl, rfl⟩
        · go_wp2_with fail
          go_meet
          exact ⟨rfl, rfl⟩
      case rest =>
        obtain ⟨rfl, rfl⟩ := hcut
        obtain ⟨w2, rfl⟩ : ∃ v, v = wc := ⟨_, rfl⟩
        clear HB
        by_cases hn : 0 < xs.length
        · have hj : J = 200 := by rw [← HJ.out, if_pos (.inl (fun e => by rw [e] at hn; cases hn))]
          subst hj
          obtain ⟨n, hnn⟩ : ∃ n, xs.length = n := ⟨_, rfl⟩
          rw [hnn] at z4 hn
          have hni : (0 : Int) < (n : Int) := by omega
          clear hnn
          go_wp2_with fail
          go_ret
          exact ⟨rfl, HKW.out⟩
        · obtain rfl : xs = [] := List.eq_nil_of_length_eq_zero (by omega)
          clear hn
          by_cases hd : xd = ⟨#[]⟩
          · have hj : J = 0 := by rw [← HJ.out, if_neg (by rintro (h | h); exact h rfl; exact h hd)]
            subst hj
            subst hd
            go_wp2_with fail
            go_ret
            exact ⟨rfl, HKW.out⟩
          · have hj : J = 200 := by rw [← HJ.out, if_pos (.inr hd)]
            subst hj
            have hdb : (xd.toList == []) = false := by rw [empty_beq]; exact decide_eq_false hd
            have hdb2 : (xd.toList != []) = true := by rw [bne, hdb]; rfl
            clear hd
            go_wp2_with fail
            go_ret
            exact ⟨rfl, HKW.out⟩
  subst he
  by_cases h12 : ak = 1 ∨ ak = 2
  case pos =>
    rw [if_pos rfl, if_pos h12] at HJ
    have HB12 : ((ak == 1) = true ∨ ((ak == 1) = false ∧ (ak == 2) = true)) := by
      by_cases h1 : ak = 1
      · exact .inl (beq_iff_eq.2 h1)
      · exact .inr ⟨beq_eq_false_iff_ne.2 h1, beq_iff_eq.2 (h12.resolve_left h1)⟩
    clear h12
    go_upto_region 4 with fail
    go_cut [34] (fun bv wx => bv = .bool true ∧ wx = w2)
    case first =>
      rcases HB12 with h | ⟨h, h'⟩
      · go_wp2_with fail
        go_meet
        exact ⟨rfl, rfl⟩
      · go_wp2_with fail
        go_meet
        exact ⟨rfl, rfl⟩
    case rest =>
      obtain ⟨rfl, rfl⟩ := hcut
      obtain ⟨w2, rfl⟩ : ∃ v, v = wc := ⟨_, rfl⟩
      clear HB12
      go_wp2_with fail
      refine (HFI.out w2 HK2.out).mono ?_
      rintro e w3 ⟨A3, c3, rfl, _, hk3⟩
      have HK3 := Lib.hid hk3
      have HKZ := Lib.hid (HKW.out.trans' hk3)
      clear hk3 HFI HFA HNA HPU HXR
      clear y0 y1 y2 y3 z1 z2 z3 z4 z5
      have y0 : w3.cell? ⟨y, 0, none⟩ = some _ := Blk.cell (HBY.out.kept (HK2.out.trans' HK3.out) (fun z => z)) rfl
      have y1 : w3.cell? ⟨y, 1, none⟩ = some _ := Blk.cell (HBY.out.kept (HK2.out.trans' HK3.out) (fun z => z)) rfl
      have y2 : w3.cell? ⟨y, 2, none⟩ = some _ := Blk.cell (HBY.out.kept (HK2.out.trans' HK3.out) (fun z => z)) rfl
      have y3 : w3.cell? ⟨y, 3, none⟩ = some _ := Blk.cell (HBY.out.kept (HK2.out.trans' HK3.out) (fun z => z)) rfl
      have z1 : w3.cell? ⟨z, 1, none⟩ = some _ := Blk.cell (HBZ.out.kept (HK2.out.trans' HK3.out) (fun z => z)) rfl
      have z2 : w3.cell? ⟨z, 2, none⟩ = some _ := Blk.cell (HBZ.out.kept (HK2.out.trans' HK3.out) (fun z => z)) rfl
      have z3 : w3.cell? ⟨z, 3, none⟩ = some _ := Blk.cell (HBZ.out.kept (HK2.out.trans' HK3.out) (fun z => z)) rfl
      have z4 : w3.cell? ⟨z, 4, none⟩ = some _ := Blk.cell (HBZ.out.kept (HK2.out.trans' HK3.out) (fun z => z)) rfl
      have z5 : w3.cell? ⟨z, 5, none⟩ = some _ := Blk.cell (HBZ.out.kept (HK2.out.trans' HK3.out) (fun z => z)) rfl
      cases LF with
      | none =>
        simp only at HJ
        obtain ⟨J, rfl⟩ : ∃ v, v = J := ⟨_, rfl⟩
        have hj := HJ.out
        subst hj
        unfold lineV zeroLine zeroO
        go_wp2_with fail
        go_ret
        exact ⟨rfl, HKZ.out.alloc _⟩
      | some l =>
        obtain ⟨⟨on, oe, okd, os, oc, oq, onm, osz, ohs⟩, lan, lae⟩ := l
        simp only [Option.getD_some, Option.isSome_some] at HJ ⊢
        unfold lineV
        go_upto_region 8 with fail
        obtain ⟨u, hu⟩ : ∃ v, w3.heap.size = v := ⟨_, rfl⟩
        obtain ⟨w4, hw4⟩ : ∃ v, w3.alloc (.cells #[.int .i64 on, .int .i64 oe, .int .i64 okd, .int .i64 os, .int .i64 oc, .int .i64 oq, .string onm, .int .i64 osz, .slice A3 ohs.length c3, .int .i64 lan, .int .i64 lae] 76) = v := ⟨_, rfl⟩
        have hk4 : Kp No w3 w4 := by rw [← hw4]; exact (Kp.refl _ _).alloc _
        have hbu : Blk w4 u 76 [.int .i64 on, .int .i64 oe, .int .i64 okd, .int .i64 os, .int .i64 oc, .int .i64 oq, .string onm, .int .i64 osz, .slice A3 ohs.length c3, .int .i64 lan, .int .i64 lae] := by rw [← hw4, ← hu]; exact Blk.new w3 _ _
        try rw [hw4]
        try rw [hu]
        have u2 : w4.cell? ⟨u, 2, none⟩ = some _ := Blk.cell hbu rfl
        have u4 : w4.cell? ⟨u, 4, none⟩ = some _ := Blk.cell hbu rfl
        have u5 : w4.cell? ⟨u, 5, none⟩ = some _ := Blk.cell hbu rfl
        have HK4 := Lib.hid (HK3.out.trans' hk4)
        have HKZ := Lib.hid (HKZ.out.trans' hk4)
        clear y0 y1 y2 y3 z1 z2 z3 z4 z5
        have y0 : w4.cell? ⟨y, 0, none⟩ = some _ := Blk.cell (HBY.out.kept (HK2.out.trans' HK4.out) (fun z => z)) rfl
        have y1 : w4.cell? ⟨y, 1, none⟩ = some _ := Blk.cell (HBY.out.kept (HK2.out.trans' HK4.out) (fun z => z)) rfl
        have y2 : w4.cell? ⟨y, 2, none⟩ = some _ := Blk.cell (HBY.out.kept (HK2.out.trans' HK4.out) (fun z => z)) rfl
        have y3 : w4.cell? ⟨y, 3, none⟩ = some _ := Blk.cell (HBY.out.kept (HK2.out.trans' HK4.out) (fun z => z)) rfl
        have z1 : w4.cell? ⟨z, 1, none⟩ = some _ := Blk.cell (HBZ.out.kept (HK2.out.trans' HK4.out) (fun z => z)) rfl
        have z2 : w4.cell? ⟨z, 2, none⟩ = some _ := Blk.cell (HBZ.out.kept (HK2.out.trans' HK4.out) (fun z => z)) rfl
        have z3 : w4.cell? ⟨z, 3, none⟩ = some _ := Blk.cell (HBZ.out.kept (HK2.out.trans' HK4.out) (fun z => z)) rfl
        have z4 : w4.cell? ⟨z, 4, none⟩ = some _ := Blk.cell (HBZ.out.kept (HK2.out.trans' HK4.out) (fun z => z)) rfl
        have z5 : w4.cell? ⟨z, 5, none⟩ = some _ := Blk.cell (HBZ.out.kept (HK2.out.trans' HK4.out) (fun z => z)) rfl
        clear hk4 hbu hw4 hu
        by_cases k3 : okd = 3
        · have hj : J = 200 := by rw [← HJ.out, if_pos (.inl k3)]
          subst hj
          have kb : (okd == 3) = true := beq_iff_eq.2 k3
          clear k3
          go_wp2_with fail
          go_ret
          exact ⟨rfl, HKZ.out⟩
        · have kb : (okd == 3) = false := beq_eq_false_iff_ne.2 k3
          by_cases kc : oc = ac
          · have kcb : (oc != ac) = false := by subst kc; simp
            by_cases kq : oq = as_
            · have hj : J = 0 := by rw [← HJ.out, if_neg (by rintro (h | h | h); exact k3 h; exact h kc; exact h kq)]
              subst hj
              have kqb : (oq != as_) = false := by subst kq; simp
              clear k3 kc kq
              go_wp2_with fail
              go_ret
              exact ⟨rfl, HKZ.out⟩
            · have hj : J = 200 := by rw [← HJ.out, if_pos (.inr (.inr kq))]
              subst hj
              have kqb : (oq != as_) = true := bne_iff_ne.2 kq
              clear k3 kc kq
              go_wp2_with fail
              go_ret
              exact ⟨rfl, HKZ.out⟩
          · have hj : J = 200 := by rw [← HJ.out, if_pos (.inr (.inl kc))]
            subst hj
            have kcb : (oc != ac) = true := bne_iff_ne.2 kc
            clear k3 kc
            go_wp2_with fail
            go_ret
            exact ⟨rfl, HKZ.out⟩
  case neg =>
    rw [if_pos rfl, if_neg h12] at HJ
    have kb1 : (ak == 1) = false := beq_eq_false_iff_ne.2 (fun h => h12 (.inl h))
    have kb2 : (ak == 2) = false := beq_eq_false_iff_ne.2 (fun h => h12 (.inr h))
    clear h12 HFI
    by_cases h3 : ak = 3
    case pos =>
      subst h3
      rw [if_pos rfl] at HJ
      clear kb1 kb2 HPU HFA
      cases TB with
      | false =>
        have hj : J = 51 := by rw [← HJ.out, if_neg (by simp)]
        subst hj
        go_wp2_with fail
        go_ret
        exact ⟨rfl, HKW.out⟩
      | true =>
        rw [if_pos rfl] at HJ
        go_wp2_with fail
        refine (HNA.out w2 HK2.out).mono ?_
        rintro e w3 ⟨A3, c3, rfl, hr3, hk3⟩
        have HK3 : Hid (Kp No wa w3) := Lib.hid (HK2.out.trans' hk3)
        have HKZ := Lib.hid (HKW.out.trans' hk3)
        have HR3 := Lib.hid hr3
        clear hk3 hr3 HNA
        clear y0 y1 y2 y3 z1 z2 z3 z4 z5
        have y0 : w3.cell? ⟨y, 0, none⟩ = some _ := Blk.cell (HBY.out.kept HK3.out (fun z => z)) rfl
        have y1 : w3.cell? ⟨y, 1, none⟩ = some _ := Blk.cell (HBY.out.kept HK3.out (fun z => z)) rfl
        have y2 : w3.cell? ⟨y, 2, none⟩ = some _ := Blk.cell (HBY.out.kept HK3.out (fun z => z)) rfl
        have y3 : w3.cell? ⟨y, 3, none⟩ = some _ := Blk.cell (HBY.out.kept HK3.out (fun z => z)) rfl
        have z1 : w3.cell? ⟨z, 1, none⟩ = some _ := Blk.cell (HBZ.out.kept HK3.out (fun z => z)) rfl
        have z2 : w3.cell? ⟨z, 2, none⟩ = some _ := Blk.cell (HBZ.out.kept HK3.out (fun z => z)) rfl
        have z3 : w3.cell? ⟨z, 3, none⟩ = some _ := Blk.cell (HBZ.out.kept HK3.out (fun z => z)) rfl
        have z4 : w3.cell? ⟨z, 4, none⟩ = some _ := Blk.cell (HBZ.out.kept HK3.out (fun z => z)) rfl
        have z5 : w3.cell? ⟨z, 5, none⟩ = some _ := Blk.cell (HBZ.out.kept HK3.out (fun z => z)) rfl
        by_cases hl : NN.length = xs.length
        case neg =>
          have hj : J = 200 := by rw [← HJ.out, if_neg (fun e => hl (by rw [e]))]
          subst hj
          have hlb : ((NN.length : Int) != (xs.length : Int)) = true := bne_iff_ne.2 (fun e => hl (by omega))
          clear hl
          go_wp2_with fail
          go_ret
          exact ⟨rfl, HKZ.out⟩
        case pos =>
          have hlb : ((NN.length : Int) != (xs.length : Int)) = false := by rw [hl]; simp
          have HLE := Lib.hid hl
          clear hl
          go_wp2_with fail
          clear y0 y1 y2 y3 z1 z2 z3 z4 z5
          clear hlb
          go_loopw [13] (fun iv wr => ∃ i : Nat, i ≤ NN.length ∧ iv = .int .i64 (i : Int) ∧ Hid (∀ j, j < i → NN[j]? = xs[j]?) ∧ Hid (Kp No w3 wr)) (fun iv _ => NN.length - (intOf iv).toNat)
          case atStart => exact ⟨0, Nat.zero_le _, rfl, Lib.hid (fun j h => absurd h (by omega)), Lib.hid (Kp.refl _ _)⟩
          case round =>
            obtain ⟨i, hi, rfl, HEQ, HKR⟩ := hrel
            by_cases hlt : i < NN.length
            case neg =>
              have hnx : NN = xs := by
                apply List.ext_getElem?
                intro j
                by_cases hj : j < i
                · exact HEQ.out j hj
                · rw [List.getElem?_eq_none (by omega), List.getElem?_eq_none (by have := HLE.out; omega)]
              have hj : J = 0 := by rw [← HJ.out, if_pos hnx]
              subst hj
              have hge : ¬ ((i : Int) < (NN.length : Int)) := by omega
              clear hnx hlt
              go_wp2_with fail
              go_ret
              exact ⟨rfl, HKZ.out.trans' HKR.out⟩
            case pos =>
              have hli : (i : Int) < (NN.length : Int) := by omega
              have hlx : (i : Int) < (xs.length : Int) := by have := HLE.out; omega
              obtain ⟨n, hn⟩ : ∃ n, NN[i]? = some n := ⟨_, List.getElem?_eq_getElem hlt⟩
              obtain ⟨m, hm⟩ : ∃ m, xs[i]? = some m := ⟨_, List.getElem?_eq_getElem (by have := HLE.out; omega)⟩
              obtain ⟨an', rfl, _, hcn, _⟩ := Rp.at_str (Rp.str.slice.keptNo HR3.out HKR.out) hn
              obtain ⟨am', hax, _, hcm, _⟩ := Rp.at_str (HXR.out wr (HK3.out.trans' HKR.out)) hm
              subst hax
              have i0 : (0 : Int) ≤ (i : Int) := by omega
              have hnb : (NN.length : Int) ≤ 9223372036854775807 := by
                obtain ⟨_, _, h0, h1, h2, _⟩ := HR3.out
                simp only [List.cons.injEq, and_true, Value.slice.injEq] at h0
                have h3 := h0.2.2
                subst h3
                unfold maxLen at h2
                omega
              have y0 : wr.cell? ⟨y, 0, none⟩ = some _ := Blk.cell (HBY.out.kept (HK3.out.trans' HKR.out) (fun z => z)) rfl
              have y1 : wr.cell? ⟨y, 1, none⟩ = some _ := Blk.cell (HBY.out.kept (HK3.out.trans' HKR.out) (fun z => z)) rfl
              have y2 : wr.cell? ⟨y, 2, none⟩ = some _ := Blk.cell (HBY.out.kept (HK3.out.trans' HKR.out) (fun z => z)) rfl
              have y3 : wr.cell? ⟨y, 3, none⟩ = some _ := Blk.cell (HBY.out.kept (HK3.out.trans' HKR.out) (fun z => z)) rfl
              have z1 : wr.cell? ⟨z, 1, none⟩ = some _ := Blk.cell (HBZ.out.kept (HK3.out.trans' HKR.out) (fun z => z)) rfl
              have z2 : wr.cell? ⟨z, 2, none⟩ = some _ := Blk.cell (HBZ.out.kept (HK3.out.trans' HKR.out) (fun z => z)) rfl
              have z3 : wr.cell? ⟨z, 3, none⟩ = some _ := Blk.cell (HBZ.out.kept (HK3.out.trans' HKR.out) (fun z => z)) rfl
              have z4 : wr.cell? ⟨z, 4, none⟩ = some _ := Blk.cell (HBZ.out.kept (HK3.out.trans' HKR.out) (fun z => z)) rfl
              have z5 : wr.cell? ⟨z, 5, none⟩ = some _ := Blk.cell (HBZ.out.kept (HK3.out.trans' HKR.out) (fun z => z)) rfl
              by_cases he : n = m
              case pos =>
                have hb : (n.toList == m.toList) = true := by rw [he]; simp
                have HE2 : Hid (∀ j, j < i + 1 → NN[j]? = xs[j]?) := Lib.hid (fun j hj => by
                  rcases Nat.lt_succ_iff_lt_or_eq.1 hj with h | rfl
                  · exact HEQ.out j h
                  · rw [hn, hm, he])
                clear he hn hm
                go_upto_region 19 with fail
                go_quiet (fail)
                go_wp2_with fail
                go_roundw
                case rel => exact ⟨i + 1, by omega, by go_num, HE2, Lib.hid (HKR.out.drewN _)⟩
                case measure => simp [intOf]; omega
              case neg =>
                have hb : (n.toList == m.toList) = false := by rw [bytes_list_beq]; exact decide_eq_false he
                have hj : J = 200 := by rw [← HJ.out, if_neg (fun e => he (by rw [e, hm] at hn; injection hn with hn; exact hn.symm))]
                subst hj
                clear he hn hm
                go_upto_region 19 with fail
                go_quiet (fail)
                go_wp2_with fail
                go_ret
                exact ⟨rfl, HKZ.out.trans' (HKR.out.drewN _)⟩
    case neg =>
      rw [if_neg h3] at HJ
      have kb3 : (ak == 3) = false := beq_eq_false_iff_ne.2 h3
      clear h3 HNA HXR
      by_cases h4 : ak = 4
      case pos =>
        subst h4
        rw [if_pos rfl] at HJ
        clear kb1 kb2 kb3
        cases TB with
        | false =>
          have hj : J = 51 := by rw [← HJ.out, if_neg (by simp)]
          subst hj
          go_wp2_with fail
          go_ret
          exact ⟨rfl, HKW.out⟩
        | true =>
          rw [if_pos rfl] at HJ
          go_wp2_with fail
          refine (HFA.out w2 HK2.out).mono ?_
          rintro e w3 ⟨A3, c3, rfl, hr3, hk3⟩
          have HK3 : Hid (Kp No wa w3) := Lib.hid (HK2.out.trans' hk3)
          have HKZ := Lib.hid (HKW.out.trans' hk3)
          have HR3 := Lib.hid hr3
          clear hk3 hr3 HFA
          clear y0 y1 y2 y3 z1 z2 z3 z4 z5
          have y0 : w3.cell? ⟨y, 0, none⟩ = some _ := Blk.cell (HBY.out.kept HK3.out (fun z => z)) rfl
          have y1 : w3.cell? ⟨y, 1, none⟩ = some _ := Blk.cell (HBY.out.kept HK3.out (fun z => z)) rfl
          have y2 : w3.cell? ⟨y, 2, none⟩ = some _ := Blk.cell (HBY.out.kept HK3.out (fun z => z)) rfl
          have y3 : w3.cell? ⟨y, 3, none⟩ = some _ := Blk.cell (HBY.out.kept HK3.out (fun z => z)) rfl
          have z1 : w3.cell? ⟨z, 1, none⟩ = some _ := Blk.cell (HBZ.out.kept HK3.out (fun z => z)) rfl
          have z2 : w3.cell? ⟨z, 2, none⟩ = some _ := Blk.cell (HBZ.out.kept HK3.out (fun z => z)) rfl
          have z3 : w3.cell? ⟨z, 3, none⟩ = some _ := Blk.cell (HBZ.out.kept HK3.out (fun z => z)) rfl
          have z4 : w3.cell? ⟨z, 4, none⟩ = some _ := Blk.cell (HBZ.out.kept HK3.out (fun z => z)) rfl
          have z5 : w3.cell? ⟨z, 5, none⟩ = some _ := Blk.cell (HBZ.out.kept HK3.out (fun z => z)) rfl
          cases FF with
          | none =>
            have hj := HJ.out
            simp only at hj
            subst hj
            unfold opV zeroO
            go_wp2_with fail
            go_ret
            exact ⟨rfl, HKZ.out.alloc _⟩
          | some o =>
            obtain ⟨on, oe, okd, os, oc, oq, onm, osz, ohs⟩ := o
            simp only [Option.getD_some, Option.isSome_some] at HJ HR3 ⊢
            unfold opV at HPU ⊢
            go_upto_region 25 with fail
            obtain ⟨u, hu⟩ : ∃ v, w3.heap.size = v := ⟨_, rfl⟩
            obtain ⟨w4, hw4⟩ : ∃ v, w3.alloc (.cells #[.int .i64 on, .int .i64 oe, .int .i64 okd, .int .i64 os, .int .i64 oc, .int .i64 oq, .string onm, .int .i64 osz, .slice A3 ohs.length c3] 58) = v := ⟨_, rfl⟩
            have hk4 : Kp No w3 w4 := by rw [← hw4]; exact (Kp.refl _ _).alloc _
            have hbu : Blk w4 u 58 [.int .i64 on, .int .i64 oe, .int .i64 okd, .int .i64 os, .int .i64 oc, .int .i64 oq, .string onm, .int .i64 osz, .slice A3 ohs.length c3] := by rw [← hw4, ← hu]; exact Blk.new w3 _ _
            try rw [hw4]
            try rw [hu]
            have hld := run_load_op (o := ⟨on, oe, okd, os, oc, oq, onm, osz, ohs⟩) (A := A3) (n := ohs.length) (c := c3) hbu
            unfold opV at hld
            have HLD := Lib.hid hld
            have HKZ := Lib.hid (HKZ.out.trans' hk4)
            have HPW := HPU.out ⟨on, oe, okd, os, oc, oq, onm, osz, ohs⟩ xd A3 c3 _ w4 (HK3.out.trans' hk4) HNUM.out.2.2.2.2 (Rp.str.slice.keptNo HR3.out hk4)
            have HPW := Lib.hid HPW
            clear y0 y1 y2 y3 z1 z2 z3 z4 z5
            have y0 : w4.cell? ⟨y, 0, none⟩ = some _ := Blk.cell (HBY.out.kept (HK3.out.trans' hk4) (fun z => z)) rfl
            have y1 : w4.cell? ⟨y, 1, none⟩ = some _ := Blk.cell (HBY.out.kept (HK3.out.trans' hk4) (fun z => z)) rfl
            have y2 : w4.cell? ⟨y, 2, none⟩ = some _ := Blk.cell (HBY.out.kept (HK3.out.trans' hk4) (fun z => z)) rfl
            have y3 : w4.cell? ⟨y, 3, none⟩ = some _ := Blk.cell (HBY.out.kept (HK3.out.trans' hk4) (fun z => z)) rfl
            have z1 : w4.cell? ⟨z, 1, none⟩ = some _ := Blk.cell (HBZ.out.kept (HK3.out.trans' hk4) (fun z => z)) rfl
            have z2 : w4.cell? ⟨z, 2, none⟩ = some _ := Blk.cell (HBZ.out.kept (HK3.out.trans' hk4) (fun z => z)) rfl
            have z3 : w4.cell? ⟨z, 3, none⟩ = some _ := Blk.cell (HBZ.out.kept (HK3.out.trans' hk4) (fun z => z)) rfl
            have z4 : w4.cell? ⟨z, 4, none⟩ = some _ := Blk.cell (HBZ.out.kept (HK3.out.trans' hk4) (fun z => z)) rfl
            have z5 : w4.cell? ⟨z, 5, none⟩ = some _ := Blk.cell (HBZ.out.kept (HK3.out.trans' hk4) (fun z => z)) rfl
            clear hk4 hbu hw4 hu hld HPU HR3
            go_wp2_with (refine wpl_load (by first | rfl | go_simp) 58 _ rfl _ _ rfl HLD.out ?_; go_simp)
            refine HPW.out.mono ?_
            rintro e w5 ⟨rfl, hk5⟩
            have HK5 := Lib.hid (HKZ.out.trans' hk5)
            clear HPW hk5
            cases hpp : P ⟨on, oe, okd, os, oc, oq, onm, osz, ohs⟩ xd with
            | false =>
              have hj : J = 200 := by rw [← HJ.out, if_neg (by rw [hpp]; simp)]
              subst hj
              clear hpp
              clear y0 y1 y2 y3 z1 z2 z3 z4 z5
              go_wp2_with fail
              go_ret
              exact ⟨rfl, HK5.out⟩
            | true =>
              have hj : J = 0 := by rw [← HJ.out, if_pos hpp]
              subst hj
              clear hpp
              clear y0 y1 y2 y3 z1 z2 z3 z4 z5
              go_wp2_with fail
              go_ret
              exact ⟨rfl, HK5.out⟩
      case neg =>
        rw [if_neg h4] at HJ
        have kb4 : (ak == 4) = false := beq_eq_false_iff_ne.2 h4
        clear h4 HFA HPU
        by_cases h5 : ak = 5
        · subst h5
          have hj : J = 0 := by rw [← HJ.out, if_pos (.inl rfl)]
          subst hj
          go_wp2_with fail
          go_ret
          exact ⟨rfl, HKW.out⟩
        have kb5 : (ak != 5) = true := bne_iff_ne.2 h5
        by_cases h6 : ak = 6
        · subst h6
          have hj : J = 0 := by rw [← HJ.out, if_pos (.inr rfl)]
          subst hj
          go_wp2_with fail
          go_ret
          exact ⟨rfl, HKW.out⟩
        have kb6 : (ak != 6) = true := bne_iff_ne.2 h6
        have hj : J = 200 := by rw [← HJ.out, if_neg (by rintro (h | h); exact h5 h; exact h6 h)]
        subst hj
        clear h5 h6
        go_wp2_with fail
        go_ret
        exact ⟨rfl, HKW.out⟩
end Go.Proofs.Ytamfgmlhopjppaa
