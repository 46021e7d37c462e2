/-
  Any bytes, however they are parted, have the digest that the document says: ShaSums answers true for every input. No condition.
-/
import Derived.Test.YtejmbbnndagejaaS7
import Derived.Test.YtejmbbnndagejaaS8
import Derived.Test.YtejmbbnndagejaaR5
import Derived.Test.YtejmbbnndagejaaFShaSums
namespace Go.Proofs.Ytejmbbnndagejaa
open Go.RowKit Go.ChangeShapes Go.WideShapes Go.ChangeAt

theorem elem_strS : Elem Try.prog 22 9 1 16 := Elem.of Try.underlying22 (z := .string ByteArray.empty) (by kernel_rfl) rfl (by decide)

set_option maxRecDepth 100000 in
set_option maxHeartbeats 2000000 in
theorem shaSums_walk : ShaSumsWalk := by
  intro W v0 l h0
  obtain ⟨A, c, he, hlc, hcm, hr⟩ := id h0
  simp only [List.cons.injEq, and_true] at he
  subst he
  have HL := Lib.hid h0
  clear h0 hr
  go_enter Try.func3, Try.ntmps3
  go_wp2_with fail
  refine (h_joined l A c W _ HL.out).mono ?_
  rintro e w1 ⟨⟨r, ok, rfl, hok⟩, rfl⟩
  have HOK := Lib.hid hok
  clear hok
  go_wp2_with fail
  refine (awake03 _).mono ?_
  rintro e w2 ⟨rfl, hk2⟩
  have HK2 := Lib.hid hk2
  clear hk2
  cases ok with
  | false =>
    go_wp2_with fail
    refine (awake03 _).mono ?_
    rintro e w3 ⟨rfl, hk3⟩
    go_wp2_with fail
    go_ret
    exact ⟨rfl, HK2.out.trans' hk3⟩
  | true =>
    obtain ⟨hr, hln, hfl⟩ := HOK.out rfl
    have HR := Lib.hid hr
    have hl2 := Rp.str.slice.keptNo HL.out HK2.out
    have HL2 := Lib.hid hl2
    clear hr hl2 HOK
    have hlc2 : l.length * 16 ≤ 140737488355328 := by omega
    go_wp2_with (at_builtin; refine wpList_copy_lit (E := Rp.str) rfl w2 (.tmp 17) (.tmp 18) 22 rfl 9 16 elem_strS rfl A c (fun k => k < W.heap.size) l rfl HL2.out Rp.str_one hlc2 ?_; intro A3 c3 w3 hown hk3)
    have HK3 := Lib.hid (HK2.out.trans' hk3)
    have hlt := hown.lt
    have hrd := ((hown.str_any (fun k => (Value.slice A3 l.length c3).ownBlock = some k))).read (fun k hk => hk)
    have hsum := t_sum l A3 c3 w3 _ hrd (fun k hk => (hlt k hk).2) (by omega) (by show (flatB l).length ≤ _; omega)
    rw [show (l.map (·.data.toList)).flatten = flatB l from rfl] at hsum
    have HS := Lib.hid hsum
    clear hown hk3 hlt hrd hsum HL2 hlc2
    go_wp2_with fail
    refine HS.out.mono ?_
    rintro e w4 ⟨rfl, hk4⟩
    have HK4 := Lib.hid (HK3.out.trans' hk4)
    have hrs : r.size ≤ 1048576 := by rw [HR.out, bs_size]; omega
    have hrd : r.data.toList = flatB l := by rw [HR.out, bs_data]
    have HRD := Lib.hid hrd
    clear hk4 HS hrd
    go_wp2_with fail
    refine (r_sum r _ hrs).mono ?_
    rintro e w5 ⟨rfl, hk5⟩
    rw [HRD.out]
    have HK5 := Lib.hid (HK4.out.trans' hk5)
    clear hk5
    go_wp2_with fail
    go_ret
    exact ⟨rfl, HK5.out⟩
theorem shaSums_holds : Rows.ShaSumsSaid := shaSums_of shaSums_walk
#print axioms shaSums_holds
end Go.Proofs.Ytejmbbnndagejaa
