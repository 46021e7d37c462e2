/-
  redoubtlaw05.did: a call of a drive.
-/
import Derived.Test.YtflodiljgphkdaaAwk5
import Derived.Test.YtflodiljgphkdaaOpA
namespace Go.Proofs.Ytflodiljgphkdaa
open Go.RowKit Go.ChangeShapes Go.WideShapes Go.ChangeAt

theorem el_ints : Elem Try.prog 34 3 1 8 := Elem.of Try.underlying34 (z := .int .i64 0) (by kernel_rfl) rfl (by decide)
/-- what a call does with a drive, plainly -/
def doD (o : OpV) (x : DV) : Int × DV :=
  if o.kind = 1 then appendD o.name o.data x else if o.kind = 2 then syncD o.name x else if o.kind = 3 then removeD o.name x else if o.kind = 4 then (0, fuseD o.n x)
  else if o.kind = 5 then (0, crashD o.keeps x) else if o.kind = 6 then flipD o.name o.n x else (0, x)
theorem doD_ok {x : DV} (h : OkD x) (o : OpV) (hn : (Lit.int .i64 o.n).wf = true) : OkD (doD o x).2 := by
  unfold doD
  split
  · exact appendD_ok h _ _
  split
  · exact syncD_ok h _
  split
  · exact removeD_ok h _
  split
  · exact fuseD_ok h hn
  split
  · exact crashD_ok h _
  split
  · exact flipD_ok h _ _
  · exact h
theorem doD_files (o : OpV) (x : DV) : (doD o x).2.files.length ≤ x.files.length + 1 := by
  unfold doD
  split
  · exact appendD_files _ _ _
  split
  · exact syncD_files _ _
  split
  · exact Nat.le_trans (removeD_files _ _) (Nat.le_succ _)
  split
  · exact Nat.le_succ _
  split
  · exact Nat.le_trans (crashF_length _ _) (Nat.le_succ _)
  split
  · exact flipD_files _ _ _
  · exact Nat.le_succ _

/-- a call as a value -/
def opAgg (o : OpV) (v : Value) : Value := .agg #[.int .i64 o.kind, .string o.name, .string o.data, .int .i64 o.n, v]

set_option maxRecDepth 100000 in
set_option maxHeartbeats 2000000 in
theorem n_did {w0 w : World} {d : Nat} {x : DV} (h : DNew w0 w d x) (o : OpV) (A : Option Addr) (c : Nat) (S : Nat → Prop) (hv : (Rp.int .i64).slice.R w S [.slice A o.keeps.length c] o.keeps) (hwf : (Lit.int .i64 o.n).wf = true) (h7 : o.kind ≠ 7) (hn : x.files.length ≤ 1000000) (hkl : o.keeps.length ≤ 1048576) :
    Calls Try.prog 20 #[.pointer (some ⟨d, 0, none⟩), opAgg o (.slice A o.keeps.length c)] w fun e w' => e = .returned (.tuple #[.pointer (some ⟨d, 0, none⟩), .int .i64 (doD o x).1]) ∧ DNew w0 w' d (doD o x).2 ∧ KpT w w' := by
  by_cases k1 : o.kind = 1
  · skip
    have hc := fun w1 (hk : Kp No w w1) => n_append o.name o.data w1 (h.kept hk)
    have he : doD o x = appendD o.name o.data x := by unfold doD; simp [k1]
    rw [he]
    obtain ⟨Z, hZ⟩ : ∃ Z, appendD o.name o.data x = Z := ⟨_, rfl⟩
    rw [hZ] at hc ⊢
    unfold opAgg
    rw [k1]
    clear he k1 h7 hv h hZ 
    go_enter Try.func20, Try.ntmps20
    go_wp2_with fail
    refine (hc _ ((Kp.refl No w).alloc _)).mono ?_
    rintro e w2 ⟨rfl, hd, ht⟩
    have HD := Lib.hid hd
    have HT := Lib.hid ((KpT.ofNo ((Kp.refl No w).alloc _)).trans ht)
    clear hd hc ht
    go_wp2_with fail
    go_ret2
    exact ⟨rfl, HD.out, HT.out⟩
  by_cases k2 : o.kind = 2
  · skip
    have hc := fun w1 (hk : Kp No w w1) => n_sync o.name w1 (h.kept hk)
    have he : doD o x = syncD o.name x := by unfold doD; simp [k2]
    rw [he]
    obtain ⟨Z, hZ⟩ : ∃ Z, syncD o.name x = Z := ⟨_, rfl⟩
    rw [hZ] at hc ⊢
    unfold opAgg
    rw [k2]
    clear he k2 h7 hv h hZ k1
    go_enter Try.func20, Try.ntmps20
    go_wp2_with fail
    refine (hc _ ((Kp.refl No w).alloc _)).mono ?_
    rintro e w2 ⟨rfl, hd, ht⟩
    have HD := Lib.hid hd
    have HT := Lib.hid ((KpT.ofNo ((Kp.refl No w).alloc _)).trans ht)
    clear hd hc ht
    go_wp2_with fail
    go_ret2
    exact ⟨rfl, HD.out, HT.out⟩
  by_cases k3 : o.kind = 3
  · skip
    have hc := fun w1 (hk : Kp No w w1) => n_remove o.name w1 (h.kept hk)
    have he : doD o x = removeD o.name x := by unfold doD; simp [k3]
    rw [he]
    obtain ⟨Z, hZ⟩ : ∃ Z, removeD o.name x = Z := ⟨_, rfl⟩
    rw [hZ] at hc ⊢
    unfold opAgg
    rw [k3]
    clear he k3 h7 hv h hZ k1 k2
    go_enter Try.func20, Try.ntmps20
    go_wp2_with fail
    refine (hc _ ((Kp.refl No w).alloc _)).mono ?_
    rintro e w2 ⟨rfl, hd, ht⟩
    have HD := Lib.hid hd
    have HT := Lib.hid ((KpT.ofNo ((Kp.refl No w).alloc _)).trans ht)
    clear hd hc ht
    go_wp2_with fail
    go_ret2
    exact ⟨rfl, HD.out, HT.out⟩
  by_cases k6 : o.kind = 6
  · skip
    have hc := fun w1 (hk : Kp No w w1) => n_flip o.name w1 (h.kept hk) o.n hwf
    have he : doD o x = flipD o.name o.n x := by unfold doD; simp [k6]
    rw [he]
    obtain ⟨Z, hZ⟩ : ∃ Z, flipD o.name o.n x = Z := ⟨_, rfl⟩
    rw [hZ] at hc ⊢
    unfold opAgg
    rw [k6]
    clear he k6 h7 hv h hZ k1 k2 k3
    go_enter Try.func20, Try.ntmps20
    go_wp2_with fail
    refine (hc _ ((Kp.refl No w).alloc _)).mono ?_
    rintro e w2 ⟨rfl, hd, ht⟩
    have HD := Lib.hid hd
    have HT := Lib.hid ((KpT.ofNo ((Kp.refl No w).alloc _)).trans ht)
    clear hd hc ht
    go_wp2_with fail
    go_ret2
    exact ⟨rfl, HD.out, HT.out⟩
  by_cases k4 : o.kind = 4
  · have hc := fun w1 (hk : Kp No w w1) => n_fuse w1 (h.kept hk) o.n hwf
    have he : doD o x = (0, fuseD o.n x) := by unfold doD; simp [k4]
    rw [he]
    obtain ⟨Z, hZ⟩ : ∃ Z, fuseD o.n x = Z := ⟨_, rfl⟩
    rw [hZ] at hc ⊢
    unfold opAgg
    rw [k4]
    clear he k1 k2 k3 k4 k6 h7 hv h hZ
    go_enter Try.func20, Try.ntmps20
    go_wp2_with fail
    refine (hc _ ((Kp.refl No w).alloc _)).mono ?_
    rintro e w2 ⟨rfl, hd, ht⟩
    have HD := Lib.hid hd
    have HT := Lib.hid ((KpT.ofNo ((Kp.refl No w).alloc _)).trans ht)
    clear hd hc ht
    go_wp2_with fail
    go_ret2
    exact ⟨rfl, HD.out, HT.out⟩
  by_cases k5 : o.kind = 5
  · have he : doD o x = (0, crashD o.keeps x) := by unfold doD; simp [k5]
    rw [he]
    obtain ⟨w1, hw1⟩ : ∃ w1, w.alloc (.cells #[.int .i64 o.kind, .string o.name, .string o.data, .int .i64 o.n, .slice A o.keeps.length c] 37) = w1 := ⟨_, rfl⟩
    have hk1 : Kp No w w1 := by rw [← hw1]; exact (Kp.refl _ _).alloc _
    have H1 := Lib.hid (h.kept hk1)
    have HKK := Lib.hid hk1
    have HV1 := Lib.hid ((Rp.slice _).keptNo hv hk1)
    have hcell : w1.cell? ⟨w.heap.size, 4, none⟩ = some (.slice A o.keeps.length c) := by rw [← hw1]; exact (Blk.new w [_, _, _, _, _] 37).cell rfl
    have hcell0 : w1.cell? ⟨w.heap.size, 0, none⟩ = some (.int .i64 o.kind) := by rw [← hw1]; exact (Blk.new w [_, _, _, _, _] 37).cell rfl
    rw [k5] at hcell0 hw1
    unfold opAgg
    rw [k5]
    clear he k1 k2 k3 k4 k5 k6 h7 hv h hk1
    obtain ⟨ks, hks⟩ : ∃ ks, o.keeps = ks := ⟨_, rfl⟩
    rw [hks] at hkl hcell hw1 HV1 ⊢
    have hl1 : w.heap.size < w1.heap.size := by rw [← hw1]; simp
    go_enter Try.func20, Try.ntmps20
    go_wp2_with (at_builtin; refine wpList_copy_lit (E := Rp.int .i64) rfl w1 (.tmp 40) (.tmp 42) 34 rfl 3 8 el_ints rfl A c S ks rfl HV1.out Rp.int_one (by omega) ?_; intro A' c' w2 hown hk2)
    have hc := n_crash w1 H1.out w2 hk2 A' c' ks (fun k => w1.heap.size ≤ k) hn ((hown.int_any (fun k => w1.heap.size ≤ k)).read (fun k hk => (hown.lt k hk).1)) (fun k hk => .inl hk)
    have HC := Lib.hid hc
    have HT2 := Lib.hid (KpT.ofNo (HKK.out.trans' hk2))
    clear hown hk2 hc
    refine HC.out.mono ?_
    rintro e w3 ⟨rfl, hd, ht⟩
    have HD := Lib.hid hd
    have HT := Lib.hid (HT2.out.trans ht)
    clear hd HC ht
    go_wp2_with fail
    go_ret2
    exact ⟨rfl, HD.out, HT.out⟩
  · have he : doD o x = (0, x) := by unfold doD; simp [k1, k2, k3, k4, k5, k6]
    rw [he]
    have HD := Lib.hid h
    unfold opAgg
    clear he hv h
    obtain ⟨K, hK⟩ : ∃ K, o.kind = K := ⟨_, rfl⟩
    rw [hK] at k1 k2 k3 k4 k5 k6 h7 ⊢
    clear hK
    go_enter Try.func20, Try.ntmps20
    go_wp2_with fail
    go_ret2
    exact ⟨rfl, HD.out.kept ((Kp.refl _ _).alloc _), KpT.ofNo ((Kp.refl _ _).alloc _)⟩

set_option maxRecDepth 100000 in
set_option maxHeartbeats 2000000 in
theorem n_did7 {w : World} {d : Nat} {x : DV} {F : Nat → Prop} (h : DiskAt w d x F) (o : OpV) (A : Option Addr) (n c : Nat) (h7 : o.kind = 7) :
    Calls Try.prog 20 #[.pointer (some ⟨d, 0, none⟩), opAgg o (.slice A n c)] w fun e w' => ∃ d' F', e = .returned (.tuple #[.pointer (some ⟨d', 0, none⟩), .int .i64 0]) ∧ DiskAt w' d' x F' ∧ Kp No w w' ∧ ∀ k, F' k → w.heap.size ≤ k := by
  have H := Lib.hid h
  unfold opAgg
  rw [h7]
  clear h h7
  go_enter Try.func20, Try.ntmps20
  go_wp2_with fail
  have hk := (Kp.refl No w).alloc (.cells #[.int .i64 7, .string o.name, .string o.data, .int .i64 o.n, .slice A n c] 37)
  refine (d_copy d x F _ (H.out.keptNo hk)).mono ?_
  rintro e w2 ⟨d', F', rfl, hd, hk2, hn⟩
  have HD := Lib.hid hd
  have HK := Lib.hid (hk.trans' hk2)
  have HN := Lib.hid hn
  clear hd hk hk2 hn
  go_wp2_with fail
  go_ret2
  refine ⟨d', F', rfl, HD.out, HK.out, fun k hk => ?_⟩
  have := HN.out k hk
  simp at this
  omega

/-! ### great -/
theorem Rp.at_op {w : World} {S : Nat → Prop} {A : Option Addr} {c : Nat} {l : List OpV} (h : Rp.op.slice.R w S [.slice A l.length c] l) {i : Nat} {o : OpV} (hi : l[i]? = some o) :
    ∃ ad A' c', A = some ad ∧ (∀ (j : Nat) u, [Value.int .i64 o.kind, .string o.name, .string o.data, .int .i64 o.n, .slice A' o.keeps.length c'][j]? = some u → w.cell? ((ad.add (i * 5)).add j) = some u) ∧ (Lit.int .i64 o.n).wf = true ∧ (Rp.int .i64).slice.R w S [.slice A' o.keeps.length c'] o.keeps := by
  obtain ⟨A2, c2, he, _, _, h3⟩ := h
  simp only [List.cons.injEq, Value.slice.injEq, and_true, true_and] at he
  obtain ⟨rfl, rfl⟩ := he
  have hl : 0 < l.length := by have := (List.getElem?_eq_some_iff.1 hi).1; omega
  obtain ⟨ad, rfl, hb, hc⟩ := h3 hl
  obtain ⟨es, he, v, rfl, _, _, _, hwf, hks⟩ := hc i o hi
  obtain ⟨A', c', hv, h5⟩ := id hks
  simp only [List.cons.injEq, and_true] at hv
  subst hv
  exact ⟨ad, A', c', rfl, fun j u hu => he j u hu, hwf, hks⟩
def sizeO (o : OpV) : Nat := 4 + o.data.size + o.name.size + o.keeps.length
def greatB : List OpV → Nat → Bool
  | [], _ => false
  | o :: l, n => if 8192 < n + sizeO o then true else greatB l (n + sizeO o)
theorem sumμ_mem {α : Type} {f : α → Nat} : ∀ {l : List α} {a : α}, a ∈ l → f a ≤ Rp.sumμ f l
  | b :: l, a, h => by
    unfold Rp.sumμ
    rw [List.map_cons, List.sum_cons]
    rcases List.mem_cons.1 h with rfl | h
    · omega
    · have := sumμ_mem (f := f) h; unfold Rp.sumμ at this; omega
theorem sumμ_length {α : Type} {f : α → Nat} (hf : ∀ a, 1 ≤ f a) : ∀ l : List α, l.length ≤ Rp.sumμ f l
  | [] => Nat.zero_le _
  | b :: l => by
    have := sumμ_length hf l
    have := hf b
    unfold Rp.sumμ at *
    rw [List.map_cons, List.sum_cons, List.length_cons]; omega
theorem op_μ (o : OpV) : o.data.size + o.name.size + o.keeps.length + 1 ≤ Rp.op.μ o := by
  have h1 : o.keeps.length ≤ Rp.sumμ (Rp.int .i64).μ o.keeps := sumμ_length (fun _ => Nat.le_refl _) _
  show _ ≤ o.name.size + o.data.size + (1 + Rp.sumμ (Rp.int .i64).μ o.keeps)
  omega
theorem ops_small {l : List OpV} (h : Rp.op.slice.μ l ≤ 1048576) : (∀ o ∈ l, o.data.size ≤ 1048576 ∧ o.name.size ≤ 1048576 ∧ o.keeps.length ≤ 1048576) ∧ l.length ≤ 1048576 := by
  have h : 1 + Rp.sumμ Rp.op.μ l ≤ 1048576 := h
  constructor
  · intro o ho
    have h1 := sumμ_mem (f := Rp.op.μ) ho
    have h2 := op_μ o
    omega
  · have := sumμ_length (f := Rp.op.μ) (fun o => by have := op_μ o; omega) l
    omega
set_option maxRecDepth 100000 in
set_option maxHeartbeats 2000000 in
theorem h_great5 (l : List OpV) (A : Option Addr) (c : Nat) (w : World) (S : Nat → Prop) (hl : Rp.op.slice.R w S [.slice A l.length c] l) (hμ : Rp.op.slice.μ l ≤ 1048576) :
    Calls Try.prog 19 #[.slice A l.length c] w fun e w' => e = .returned (.bool (greatB l 0 || decide (200 < l.length))) ∧ Kp No w w' := by
  obtain ⟨hsz, hll⟩ := ops_small hμ
  have HL := Lib.hid hl
  have HSZ := Lib.hid hsz
  clear hl hμ hsz
  go_enter Try.func19, Try.ntmps19
  go_wp2_with fail
  go_loopw [3, 8] (fun nv iv wr => ∃ i n : Nat, i ≤ l.length ∧ iv = .int .i64 (i : Int) ∧ nv = .int .i64 (n : Int) ∧ n ≤ 8192 ∧ Kp No w wr ∧ greatB l 0 = greatB (l.drop i) n) (fun _ iv _ => l.length - (intOf iv).toNat)
  case atStart => exact ⟨0, 0, Nat.zero_le _, rfl, rfl, by omega, Kp.refl _ _, rfl⟩
  case round =>
    obtain ⟨i, n, hi, rfl, rfl, hn, hk, hg⟩ := hrel
    have HK := Lib.hid hk
    have HG := Lib.hid hg
    clear hk hg
    by_cases hlt : i < l.length
    · have hli : (i : Int) < (l.length : Int) := by omega
      obtain ⟨o, ho⟩ : ∃ o, l[i]? = some o := ⟨_, List.getElem?_eq_getElem hlt⟩
      obtain ⟨h1, h2, h3⟩ := HSZ.out o (List.mem_of_getElem? ho)
      obtain ⟨ad, A', c', rfl, hcell, _, _⟩ := Rp.at_op (Rp.op.slice.keptNo HL.out HK.out) ho
      have z0 : wr.cell? (ad.add (i * 5)) = some _ := hcell 0 _ rfl
      have z1 : wr.cell? ⟨(ad.add (i * 5)).block, (ad.add (i * 5)).off + 1, none⟩ = some _ := hcell 1 _ rfl
      have z2 : wr.cell? ⟨(ad.add (i * 5)).block, (ad.add (i * 5)).off + 2, none⟩ = some _ := hcell 2 _ rfl
      have z3 : wr.cell? ⟨(ad.add (i * 5)).block, (ad.add (i * 5)).off + 3, none⟩ = some _ := hcell 3 _ rfl
      have z4 : wr.cell? ⟨(ad.add (i * 5)).block, (ad.add (i * 5)).off + 4, none⟩ = some _ := hcell 4 _ rfl
      have g1 : (o.data.size : Int) ≤ 1048576 := by omega
      have g2 : (o.name.size : Int) ≤ 1048576 := by omega
      have g3 : (o.keeps.length : Int) ≤ 1048576 := by omega
      have gn : (n : Int) ≤ 8192 := by omega
      clear hcell
      have hdr : l.drop i = o :: l.drop (i + 1) := by obtain ⟨e1, e2⟩ := List.getElem?_eq_some_iff.1 ho; rw [List.drop_eq_getElem_cons e1, e2]
      have hgr : greatB (l.drop i) n = if 8192 < n + sizeO o then true else greatB (l.drop (i + 1)) (n + sizeO o) := by rw [hdr]; rfl
      have HGR := Lib.hid hgr
      clear hdr hgr ho
      by_cases hbig : 8192 < n + sizeO o
      · have hb : (8192 : Int) < (n : Int) + (4 + min (o.data.size : Int) 1048576 + min (o.name.size : Int) 1048576 + (o.keeps.length : Int)) := by unfold sizeO at hbig; omega
        have HB := Lib.hid hbig
        clear hbig
        go_wp2_with fail
        go_ret
        refine ⟨congrArg (fun b => Ending.returned (Value.bool b)) ?_, HK.out.alloc _⟩
        rw [HG.out, HGR.out, if_pos HB.out]
        rfl
      · have hb : (n : Int) + (4 + min (o.data.size : Int) 1048576 + min (o.name.size : Int) 1048576 + (o.keeps.length : Int)) ≤ 8192 := by unfold sizeO at hbig; omega
        have HB := Lib.hid hbig
        clear hbig
        go_wp2_with fail
        go_roundw
        case rel => exact ⟨i + 1, n + sizeO o, by omega, by go_num, by refine congrArg _ ?_; unfold sizeO; omega, by have := HB.out; omega, HK.out.alloc _, by rw [HG.out, HGR.out, if_neg HB.out]⟩
        case measure => simp [intOf]; omega
    · obtain rfl : i = l.length := by omega
      have hge : greatB l 0 = false := by rw [HG.out, List.drop_length]; rfl
      have HGE := Lib.hid hge
      clear hge
      go_wp2_with fail
      go_ret
      refine ⟨congrArg (fun b => Ending.returned (Value.bool b)) ?_, HK.out⟩
      rw [HGE.out]
      show decide _ = _
      simp
      try omega
theorem greatB_sizes : ∀ {l : List OpV} {n : Nat}, greatB l n = false → ∀ o ∈ l, sizeO o ≤ 8192
  | o' :: l, n, h, o, ho => by
    unfold greatB at h
    split at h
    · cases h
    · rename_i hb
      rcases List.mem_cons.1 ho with rfl | ho
      · omega
      · exact greatB_sizes h o ho
end Go.Proofs.Ytflodiljgphkdaa
