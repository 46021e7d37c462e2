/-
  sheet.Build.
-/
import Derived.Test.YtejmbbnndagejaaH2
import Derived.Test.YtejmbbnndagejaaH3
import Derived.Test.YtejmbbnndagejaaC2J
namespace Go.Proofs.Ytejmbbnndagejaa
open Go.RowKit Go.ChangeShapes Go.WideShapes Go.ChangeAt

/-- so many chunks have their digests -/
def GoodTo (l cs : List ByteArray) (k : Nat) : Prop := (cs.take k).map shaB = l.take k
theorem GoodTo.step {l cs : List ByteArray} {k : Nat} {x y : ByteArray} (h : GoodTo l cs k) (hx : cs[k]? = some x) (hy : l[k]? = some y) (he : shaB x = y) : GoodTo l cs (k + 1) := by
  obtain ⟨h1, rfl⟩ := List.getElem?_eq_some_iff.1 hx
  obtain ⟨h2, rfl⟩ := List.getElem?_eq_some_iff.1 hy
  unfold GoodTo at *
  rw [List.take_succ_eq_append_getElem h1, List.take_succ_eq_append_getElem h2, List.map_append, h, ← he]; rfl
theorem GoodTo.bad {l cs : List ByteArray} {k : Nat} {x y : ByteArray} (hx : cs[k]? = some x) (hy : l[k]? = some y) (he : ¬ shaB x = y) : ¬ cs.map shaB = l := by
  intro h
  have h1 : (cs.map shaB)[k]? = l[k]? := by rw [h]
  rw [List.getElem?_map, hx, hy] at h1
  exact he (by injection h1)
theorem buildA_ok {n : Int} {l cs : List ByteArray} (h : okSheet n l = false) : buildA n l cs = (ByteArray.empty, 3) := by unfold buildA; rw [if_pos h]
theorem buildA_len {n : Int} {l cs : List ByteArray} (h : okSheet n l = true) (h1 : cs.length ≠ l.length) : buildA n l cs = (ByteArray.empty, 1) := by unfold buildA; rw [if_neg (by rw [h]; decide), if_pos h1]
theorem buildA_bad {n : Int} {l cs : List ByteArray} (h : okSheet n l = true) (h1 : cs.length = l.length) (h2 : ¬ cs.map shaB = l) : buildA n l cs = (ByteArray.empty, 101) := by unfold buildA; rw [if_neg (by rw [h]; decide), if_neg (by omega), if_pos h2]
theorem buildA_size {n : Int} {l cs : List ByteArray} (h : okSheet n l = true) (h1 : cs.length = l.length) (h2 : cs.map shaB = l) (h3 : ¬ ((joinB cs).size : Int) = n) : buildA n l cs = (ByteArray.empty, 101) := by unfold buildA; rw [if_neg (by rw [h]; decide), if_neg (by omega), if_neg (by simp [h2]), if_pos h3]
theorem buildA_all {n : Int} {l cs : List ByteArray} (h : okSheet n l = true) (h1 : cs.length = l.length) (h2 : cs.map shaB = l) (h3 : ((joinB cs).size : Int) = n) : buildA n l cs = (joinB cs, 0) := by unfold buildA; rw [if_neg (by rw [h]; decide), if_neg (by omega), if_neg (by simp [h2]), if_neg (by simp [h3])]
/-- what Build answers -/
def BuildAns (n : Int) (l cs : List ByteArray) (e : Ending) : Prop := e = .returned (.tuple #[.string (buildA n l cs).1, .int .i64 (buildA n l cs).2])

set_option maxRecDepth 100000 in
set_option maxHeartbeats 2000000 in
theorem c_build (n : Int) (l : List ByteArray) (A : Option Addr) (c : Nat) (w : World) (S : Nat → Prop) (hl : Rp.str.slice.R w S [.slice A l.length c] l) (h0 : -9223372036854775808 ≤ n) (h1 : n < 9223372036854775808) (hll : l.length ≤ 1000000)
    (cs : List ByteArray) (A2 : Option Addr) (c2 base : Nat) (hc : Own Rp.str w No base 9 (.slice A2 cs.length c2) cs) (hcl : cs.length ≤ 1000000) (hcs : ∀ x ∈ cs, x.size ≤ 1048576) (hj : (joinB cs).size ≤ 1048576) :
    Calls Try.prog 26 #[.agg #[.int .i64 n, .slice A l.length c], .slice A2 cs.length c2] w fun e w' => BuildAns n l cs e ∧ Kp No w w' := by
  have HL := Lib.hid hl
  have HC := Lib.hid hc
  have HCS := Lib.hid hcs
  clear hl hc hcs
  go_enter Try.func26, Try.ntmps26
  go_wp2_with fail
  obtain ⟨w1, hw1⟩ : ∃ w1, w.alloc (.cells #[.int .i64 n, .slice A l.length c] 34) = w1 := ⟨_, rfl⟩
  have HB : Hid (Blk w1 w.heap.size 34 [.int .i64 n, .slice A l.length c]) := Lib.hid (by rw [← hw1]; exact Blk.new w _ _)
  have HK1 : Hid (Kp No w w1) := Lib.hid (by rw [← hw1]; exact (Kp.refl _ _).alloc _)
  rw [hw1]
  clear hw1
  refine (c_check n l A c w1 S (Rp.str.slice.keptNo HL.out HK1.out) h0 h1 hll).mono ?_
  rintro e w2 ⟨rfl, hk2⟩
  have HB2 := Lib.hid (HB.out.kept hk2 (fun x => x))
  have HK2 := Lib.hid (HK1.out.trans' hk2)
  clear hk2 HB HK1
  cases hok : okSheet n l with
  | false =>
    have hck : chkN n l = 3 := by unfold chkN; rw [hok]; rfl
    rw [hck]
    have HA := Lib.hid (buildA_ok (cs := cs) hok)
    clear hok hck
    go_wp2_with fail
    go_ret2
    exact ⟨by unfold BuildAns; rw [HA.out]; rfl, HK2.out⟩
  | true =>
    have hck : chkN n l = 0 := by unfold chkN; rw [hok]; rfl
    rw [hck]
    have HOK := Lib.hid hok
    clear hok hck
    have d0 : w2.cell? ⟨w.heap.size, 0, none⟩ = some (.int .i64 n) := HB2.out.cell rfl
    have d1 : w2.cell? ⟨w.heap.size, 1, none⟩ = some (.slice A l.length c) := HB2.out.cell rfl
    by_cases hlen : cs.length = l.length
    · have hq : ((cs.length : Int) != (l.length : Int)) = false := by simp; omega
      have HLEN := Lib.hid hlen
      clear hlen
      have HG0 : Hid (GoodTo l cs 0) := Lib.hid rfl
      go_wp2_with fail
      obtain ⟨wo, hwo⟩ : ∃ wo : World, wo = w2 := ⟨_, rfl⟩
      go_loopw [23] (fun iv wr => ∃ k : Nat, k ≤ cs.length ∧ iv = .int .i64 (k : Int) ∧ GoodTo l cs k ∧ Kp No w2 wr) (fun iv _ => cs.length - (intOf iv).toNat)
      case atStart => exact ⟨0, Nat.zero_le _, rfl, HG0.out, Kp.refl _ _⟩
      case round =>
        clear hwo HG0 d0 d1
        obtain ⟨k, hk, rfl, hg, hkr⟩ := hrel
        have HG := Lib.hid hg
        have HKR := Lib.hid hkr
        clear hg hkr
        have HB3 := Lib.hid (HB2.out.kept HKR.out (fun x => x))
        have HK3 := Lib.hid (HK2.out.trans' HKR.out)
        have d0 : wr.cell? ⟨w.heap.size, 0, none⟩ = some (.int .i64 n) := HB3.out.cell rfl
        have d1 : wr.cell? ⟨w.heap.size, 1, none⟩ = some (.slice A l.length c) := HB3.out.cell rfl
        by_cases hlt : k < cs.length
        · obtain ⟨x, hx⟩ : ∃ x, cs[k]? = some x := ⟨_, List.getElem?_eq_getElem hlt⟩
          obtain ⟨y, hy⟩ : ∃ y, l[k]? = some y := ⟨_, List.getElem?_eq_getElem (by have := HLEN.out; omega)⟩
          obtain ⟨gc, rfl, _, hgc2, hcx, _, _⟩ := Own.cellBy Rp.str_by (HC.out.keptNo HK3.out) hx
          obtain ⟨ad, rfl, _, hcy, _⟩ := Rp.at_str (Rp.str.slice.keptNo HL.out HK3.out) hy
          have hadl : (ad.add k).block < wr.heap.size := lt_of_cell hcy
          have hxs := HCS.out x (List.mem_of_getElem? hx)
          have hbl := HB3.out.lt
          have hne1 : w.heap.size ≠ wr.heap.size := by omega
          have hklt : k < l.length := by have := HLEN.out; omega
          have hkli : (k : Int) < (l.length : Int) := by omega
          have HX := Lib.hid hx
          have HY := Lib.hid hy
          have hbla : (ad.add k).block ≠ wr.heap.size := by omega
          clear hx hy
          go_wp2_with fail
          refine Reg.wp_region_plan [⟨0, false, []⟩, ⟨3, false, []⟩, ⟨4, false, []⟩, ⟨5, false, []⟩, ⟨6, false, []⟩, ⟨7, false, []⟩, ⟨1, true, [3, 4, 6, 7]⟩, ⟨2, true, [3, 4, 6, 7]⟩, ⟨8, false, []⟩] rfl (by kernel_rfl) ?_
          repeat (first | (refine Reg.look rfl rfl rfl (by go_simp; rfl) rfl ?_; go_simp) | (refine Reg.skip rfl rfl rfl ?_; go_simp))
          refine Reg.act rfl ?_
          go_wp2
          (refine ⟨?anew, ?_⟩; case anew => ((repeat (refine Reg.anew_cons rfl rfl (fun _ => by go_simp) ?_)); exact Reg.anew_nil))
          refine Reg.act rfl ?_
          go_wp2_with fail
          refine (t_sum1 x ((wr.alloc (.cells #[.string x] 9)).drew) (heap_alloc_new wr _) hxs).mono ?_
          rintro e w5 ⟨rfl, hk5⟩
          have hk5' : Kp No wr w5 := (((Kp.refl _ _).alloc _).drew).trans' hk5
          have HK5 := Lib.hid (HK3.out.trans' hk5')
          have HKR5 := Lib.hid (HKR.out.trans' hk5')
          have z1 : w5.cell? ⟨w.heap.size, 1, none⟩ = some (.slice (some ad) l.length c) := (HB3.out.kept hk5' (fun x => x)).cell rfl
          have z2 : w5.cell? (ad.add k) = some (.string y) := by rw [hk5'.cell hadl (fun x => x)]; exact hcy
          obtain ⟨D, hD⟩ : ∃ D, shaB x = D := ⟨_, rfl⟩
          rw [hD]
          have HD := Lib.hid hD
          clear hk5 hk5' hD
          by_cases hxy : D = y
          · have HN := Lib.hid (HG.out.step HX.out HY.out (by rw [HD.out]; exact hxy))
            subst hxy
            go_wp2_with fail
            (refine ⟨?anew, ?_⟩; case anew => ((repeat (refine Reg.anew_cons rfl rfl (fun _ => by go_simp) ?_)); exact Reg.anew_nil))
            repeat (first | (refine Reg.look rfl rfl rfl (by go_simp; rfl) rfl ?_; go_simp) | (refine Reg.skip rfl rfl rfl ?_; go_simp))
            (refine Reg.done ?_; simp only [Exit.then])
            go_wp2
            go_roundw
            case rel => exact ⟨k + 1, by omega, by go_num, HN.out, HKR5.out⟩
            case measure => simp [intOf]; omega
          · have HA := Lib.hid (buildA_bad HOK.out HLEN.out (GoodTo.bad HX.out HY.out (by rw [HD.out]; exact hxy)))
            have hne : (D.toList == y.toList) = false := by rw [bytes_list_beq]; exact decide_eq_false hxy
            have hne2 : (D.toList != y.toList) = true := by unfold bne; rw [hne]; rfl
            have hne3 : (y.toList == D.toList) = false := by rw [bytes_list_beq]; exact decide_eq_false (fun e => hxy e.symm)
            go_wp2_with fail
            (refine ⟨?anew, ?_⟩; case anew => ((repeat (refine Reg.anew_cons rfl rfl (fun _ => by go_simp) ?_)); exact Reg.anew_nil))
            repeat (first | (refine Reg.look rfl rfl rfl (by go_simp; rfl) rfl ?_; go_simp) | (refine Reg.skip rfl rfl rfl ?_; go_simp))
            (refine Reg.done ?_; simp only [Exit.then])
            go_wp2_with fail
            go_ret2
            exact ⟨by unfold BuildAns; rw [HA.out]; rfl, HK5.out⟩
        · obtain rfl : k = cs.length := by omega
          have hgood : cs.map shaB = l := by
            have h := HG.out
            unfold GoodTo at h
            rw [List.take_length, HLEN.out, List.take_length] at h
            exact h
          have HGOOD := Lib.hid hgood
          clear hgood
          go_wp2_with fail
          refine (c_join cs A2 c2 base _ _ (HC.out.keptNo HK3.out) (by omega) hj).mono ?_
          rintro e w5 ⟨rfl, hk5⟩
          have HK5 := Lib.hid (HK3.out.trans' hk5)
          have e0 : w5.cell? ⟨w.heap.size, 0, none⟩ = some (.int .i64 n) := (HB3.out.kept hk5 (fun x => x)).cell rfl
          obtain ⟨J, hJ⟩ : ∃ J, joinB cs = J := ⟨_, rfl⟩
          have hj2 := hj
          rw [hJ] at hj2 ⊢
          have HJ := Lib.hid hJ
          clear hk5 hJ hj
          by_cases hsz : (J.size : Int) = n
          · have hq2 : ((J.size : Int) != n) = false := by simp [hsz]
            have HA := Lib.hid (buildA_all HOK.out HLEN.out HGOOD.out (by rw [HJ.out]; exact hsz))
            clear hsz
            go_wp2_with fail
            go_ret2
            exact ⟨by unfold BuildAns; rw [HA.out, HJ.out]; rfl, HK5.out⟩
          · have hq2 : ((J.size : Int) != n) = true := by simp [hsz]
            have HA := Lib.hid (buildA_size HOK.out HLEN.out HGOOD.out (by rw [HJ.out]; exact hsz))
            clear hsz
            go_wp2_with fail
            go_ret2
            exact ⟨by unfold BuildAns; rw [HA.out]; rfl, HK5.out⟩
    · have hq : ((cs.length : Int) != (l.length : Int)) = true := by simp; omega
      have HA := Lib.hid (buildA_len (n := n) (l := l) HOK.out hlen)
      clear hlen
      go_wp2_with fail
      go_ret2
      exact ⟨by unfold BuildAns; rw [HA.out]; rfl, HK2.out⟩
end Go.Proofs.Ytejmbbnndagejaa
