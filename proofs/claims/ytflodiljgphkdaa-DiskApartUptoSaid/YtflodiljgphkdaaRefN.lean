/-
  The document's drive: one that the call itself has made; redoubtlaw05.want.
-/
import Derived.Test.YtflodiljgphkdaaRef9
import Derived.Test.YtflodiljgphkdaaDid5
namespace Go.Proofs.Ytflodiljgphkdaa
open Go.RowKit Go.ChangeShapes Go.WideShapes Go.ChangeAt

theorem RAt.types {w : World} {r : Nat} {x : DV} {F : Nat → Prop} (h : RAt w r x F) {k : Nat} (hk : F k) : ∃ cs e, w.heap[k]? = some (.cells cs e (0, 0)) ∧ (e = 102 ∨ e = 106) := by
  obtain ⟨v, h, hF⟩ := h
  rcases (hF k).1 hk with rfl | hv
  · exact ⟨_, _, h.blk, .inl rfl⟩
  · obtain ⟨cs, h1⟩ := h.row.types hv
    exact ⟨_, _, h1, .inr rfl⟩
theorem DiskAt.apart {w : World} {d r : Nat} {x y : DV} {F F' : Nat → Prop} (h : DiskAt w d x F) (hr : RAt w r y F') : ∀ k, F k → ¬ F' k := by
  intro k hk hk'
  obtain ⟨cs, e, hb, he⟩ := hr.types hk'
  rcases h.types hk hb with rfl | rfl | rfl <;> rcases he with he | he <;> exact absurd he (by decide)
theorem RAt.keptT {w w' : World} {r : Nat} {x : DV} {F : Nat → Prop} (h : RAt w r x F) (hk : KpT w w') : RAt w' r x F := by
  obtain ⟨v, h, hF⟩ := h
  refine ⟨v, ⟨hk.blk h.blk (by decide) (by decide) (by decide), h.row.keep fun k hk' => ?_, h.ok, h.sh⟩, hF⟩
  obtain ⟨cs, h1⟩ := h.row.types hk'
  rw [h1]
  exact hk k _ _ _ (by decide) (by decide) (by decide) h1
/-- A drive of the document's that is new since w0; nothing of before has turned. -/
def RNew (w0 w : World) (r : Nat) (x : DV) : Prop := ∃ F, RAt w r x F ∧ Kp No w0 w ∧ ∀ k, F k → w0.heap.size ≤ k
/-- the program's drives are as they were -/
def KpD (w0 w w' : World) : Prop := ∀ d x, DNew w0 w d x → DNew w0 w' d x
namespace RNew
variable {w0 w w' : World} {r : Nat} {x y : DV}
theorem kp (h : RNew w0 w r x) : Kp No w0 w := by obtain ⟨_, _, h, _⟩ := h; exact h
theorem ok (h : RNew w0 w r x) : OkD x := by obtain ⟨_, h, _⟩ := h; exact h.ok
theorem kept (h : RNew w0 w r x) (hk : Kp No w w') : RNew w0 w' r x := by
  obtain ⟨F, h1, h2, h3⟩ := h
  exact ⟨F, h1.keptNo hk, h2.trans' hk, h3⟩
theorem keptT (h : RNew w0 w r x) (hk : KpT w w') (h0 : Kp No w0 w') : RNew w0 w' r x := by
  obtain ⟨F, h1, h2, h3⟩ := h
  exact ⟨F, h1.keptT hk, h0, h3⟩
theorem step (h : ∃ F, RAt w r x F ∧ Kp No w0 w ∧ (∀ k, F k → w0.heap.size ≤ k) ∧ ∃ F', RAt w' r y F' ∧ Upd F w w' F') : RNew w0 w' r y ∧ KpD w0 w w' := by
  obtain ⟨F, h1, h2, h3, F', h4, h5, h6⟩ := h
  have hk : Kp No w0 w' := h2.trans h5 (fun k hk hf => absurd (h3 k hf) (by omega))
  refine ⟨⟨F', h4, hk, fun k hk => ?_⟩, ?_⟩
  · rcases h6 k hk with h | h
    · exact h3 k h
    · have := h2.size; omega
  · rintro d z ⟨Fd, g1, g2, g3⟩
    exact ⟨Fd, g1.kept h5 (fun k hk hf => g1.apart h1 k hk hf), hk, g3⟩
end RNew
theorem KpD.ofNo {w0 w w' : World} (h : Kp No w w') : KpD w0 w w' := fun _ _ hd => hd.kept h
theorem KpD.trans {w0 a b c : World} (h : KpD w0 a b) (k : KpD w0 b c) : KpD w0 a c := fun d x hd => k d x (h d x hd)
theorem m_new (w : World) : Calls Try.prog 23 #[] w fun e w' => ∃ r, e = .returned (.pointer (some ⟨r, 0, none⟩)) ∧ RNew w w' r newD ∧ Kp No w w' :=
  (r_new w).mono fun _ _ ⟨r, F, he, h1, h2, h3⟩ => ⟨r, he, ⟨F, h1, h2, h3⟩, h2⟩
section
variable {w0 : World} {r : Nat} {x : DV} (n s : ByteArray) (w : World) (h : RNew w0 w r x)
include h
theorem m_append (hx : x.files.length ≤ 1000000) (hn : n.size ≤ maxLen) : Calls Try.prog 65 #[.pointer (some ⟨r, 0, none⟩), .string n, .string s] w fun e w' => e = .returned (.int .i64 (appendD n s x).1) ∧ RNew w0 w' r (appendD n s x).2 ∧ KpD w0 w w' := by
  obtain ⟨F, h1, h2, h3⟩ := h
  exact (r_append r x F n s w h1 hn hx).mono fun e w' ⟨he, h4⟩ => ⟨he, RNew.step ⟨F, h1, h2, h3, h4⟩⟩
theorem m_sync (hn : n.size ≤ maxLen) : Calls Try.prog 66 #[.pointer (some ⟨r, 0, none⟩), .string n] w fun e w' => e = .returned (.int .i64 (syncD n x).1) ∧ RNew w0 w' r (syncD n x).2 ∧ KpD w0 w w' := by
  obtain ⟨F, h1, h2, h3⟩ := h
  exact (r_sync r x F n w h1 hn).mono fun e w' ⟨he, h4⟩ => ⟨he, RNew.step ⟨F, h1, h2, h3, h4⟩⟩
theorem m_remove (hx : x.files.length ≤ 1000000) (hn : n.size ≤ maxLen) : Calls Try.prog 67 #[.pointer (some ⟨r, 0, none⟩), .string n] w fun e w' => e = .returned (.int .i64 (removeD n x).1) ∧ RNew w0 w' r (removeD n x).2 ∧ KpD w0 w w' := by
  obtain ⟨F, h1, h2, h3⟩ := h
  exact (r_remove r x F n w h1 hn hx).mono fun e w' ⟨he, h4⟩ => ⟨he, RNew.step ⟨F, h1, h2, h3, h4⟩⟩
theorem m_flip (b : Int) (hb : (Lit.int .i64 b).wf = true) : Calls Try.prog 70 #[.pointer (some ⟨r, 0, none⟩), .string n, .int .i64 b] w fun e w' => e = .returned (.int .i64 (flipD n b x).1) ∧ RNew w0 w' r (flipD n b x).2 ∧ KpD w0 w w' := by
  obtain ⟨F, h1, h2, h3⟩ := h
  exact (r_flip r x F n b w h1 hb).mono fun e w' ⟨he, h4⟩ => ⟨he, RNew.step ⟨F, h1, h2, h3, h4⟩⟩
theorem m_fuse (b : Int) (hb : (Lit.int .i64 b).wf = true) : Calls Try.prog 68 #[.pointer (some ⟨r, 0, none⟩), .int .i64 b] w fun e w' => e = .returned (.tuple #[]) ∧ RNew w0 w' r (fuseD b x) ∧ KpD w0 w w' := by
  obtain ⟨F, h1, h2, h3⟩ := h
  exact (r_fuse r x F b w h1 hb).mono fun e w' ⟨he, h4, h5⟩ => ⟨he, RNew.step ⟨F, h1, h2, h3, F, h4, h5, fun k hk => .inl hk⟩⟩
theorem m_crash (A0 : Option Addr) (c0 : Nat) (ks : List Int) (S : Nat → Prop) (hn : x.files.length ≤ 1000000) (hks : (Rp.int .i64).slice.R w S [.slice A0 ks.length c0] ks) (hS : ∀ k, S k → k < w0.heap.size) :
    Calls Try.prog 69 #[.pointer (some ⟨r, 0, none⟩), .slice A0 ks.length c0] w fun e w' => e = .returned (.tuple #[]) ∧ RNew w0 w' r (crashD ks x) ∧ KpD w0 w w' := by
  obtain ⟨F, h1, h2, h3⟩ := h
  exact (r_crash r x F A0 c0 ks S w h1 hn hks (fun k hs hf => by have := h3 k hf; have := hS k hs; omega)).mono fun e w' ⟨he, h4⟩ => ⟨he, RNew.step ⟨F, h1, h2, h3, h4⟩⟩
theorem m_read : Calls Try.prog 29 #[.pointer (some ⟨r, 0, none⟩), .string n] w fun e w' => e = .returned (.tuple #[.string (textOr (readD n x)), .bool (readD n x).isSome]) ∧ Kp No w w' := by
  obtain ⟨F, h1, h2, h3⟩ := h
  exact r_read r x F n w h1
theorem m_names (hn : x.files.length ≤ 1000000) : Calls Try.prog 28 #[.pointer (some ⟨r, 0, none⟩), .string n] w fun e w' => ∃ A c, e = .returned (.slice A (namesD n x).length c) ∧ Own Rp.str w' No w.heap.size 9 (.slice A (namesD n x).length c) (namesD n x) ∧ Kp No w w' := by
  obtain ⟨F, h1, h2, h3⟩ := h
  exact r_names r x F n w h1 hn
theorem m_copy (hn : x.files.length ≤ 1000000) : Calls Try.prog 31 #[.pointer (some ⟨r, 0, none⟩)] w fun e w' => ∃ r', e = .returned (.pointer (some ⟨r', 0, none⟩)) ∧ RNew w w' r' x := by
  obtain ⟨F, h1, h2, h3⟩ := h
  exact (r_copy r x F w h1 hn).mono fun e w' ⟨r', F', he, g1, g2, g3⟩ => ⟨r', he, F', g1, g2, g3⟩
end

set_option maxRecDepth 100000 in
set_option maxHeartbeats 2000000 in
theorem m_want {w0 w : World} {r : Nat} {x : DV} (h : RNew w0 w r x) (o : OpV) (A : Option Addr) (c : Nat) (S : Nat → Prop) (hv : (Rp.int .i64).slice.R w S [.slice A o.keeps.length c] o.keeps) (hS : ∀ k, S k → k < w0.heap.size) (hwf : (Lit.int .i64 o.n).wf = true) (hn : x.files.length ≤ 1000000) (hnm : o.name.size ≤ maxLen) :
    Calls Try.prog 24 #[.pointer (some ⟨r, 0, none⟩), opAgg o (.slice A o.keeps.length c)] w fun e w' => e = .returned (.int .i64 (doD o x).1) ∧ RNew w0 w' r (doD o x).2 ∧ KpD w0 w w' := by
  by_cases k1 : o.kind = 1
  · skip
    have hc := fun w1 (hk : Kp No w w1) => m_append o.name o.data w1 (h.kept hk) hn hnm
    have he : doD o x = appendD o.name o.data x := by unfold doD; simp [k1]
    rw [he]
    obtain ⟨Z, hZ⟩ : ∃ Z, appendD o.name o.data x = Z := ⟨_, rfl⟩
    rw [hZ] at hc ⊢
    unfold opAgg
    rw [k1]
    clear he k1 hv h hZ 
    go_enter Try.func24, Try.ntmps24
    go_wp2_with fail
    refine (hc _ ((Kp.refl No w).alloc _)).mono ?_
    rintro e w2 ⟨rfl, hd, ht⟩
    have HD := Lib.hid hd
    have HT := Lib.hid ((KpD.ofNo ((Kp.refl No w).alloc _)).trans ht)
    clear hd hc ht
    go_wp2_with fail
    go_ret
    exact ⟨rfl, HD.out, HT.out⟩
  by_cases k2 : o.kind = 2
  · skip
    have hc := fun w1 (hk : Kp No w w1) => m_sync o.name w1 (h.kept hk) hnm
    have he : doD o x = syncD o.name x := by unfold doD; simp [k2]
    rw [he]
    obtain ⟨Z, hZ⟩ : ∃ Z, syncD o.name x = Z := ⟨_, rfl⟩
    rw [hZ] at hc ⊢
    unfold opAgg
    rw [k2]
    clear he k2 hv h hZ k1
    go_enter Try.func24, Try.ntmps24
    go_wp2_with fail
    refine (hc _ ((Kp.refl No w).alloc _)).mono ?_
    rintro e w2 ⟨rfl, hd, ht⟩
    have HD := Lib.hid hd
    have HT := Lib.hid ((KpD.ofNo ((Kp.refl No w).alloc _)).trans ht)
    clear hd hc ht
    go_wp2_with fail
    go_ret
    exact ⟨rfl, HD.out, HT.out⟩
  by_cases k3 : o.kind = 3
  · skip
    have hc := fun w1 (hk : Kp No w w1) => m_remove o.name w1 (h.kept hk) hn hnm
    have he : doD o x = removeD o.name x := by unfold doD; simp [k3]
    rw [he]
    obtain ⟨Z, hZ⟩ : ∃ Z, removeD o.name x = Z := ⟨_, rfl⟩
    rw [hZ] at hc ⊢
    unfold opAgg
    rw [k3]
    clear he k3 hv h hZ k1 k2
    go_enter Try.func24, Try.ntmps24
    go_wp2_with fail
    refine (hc _ ((Kp.refl No w).alloc _)).mono ?_
    rintro e w2 ⟨rfl, hd, ht⟩
    have HD := Lib.hid hd
    have HT := Lib.hid ((KpD.ofNo ((Kp.refl No w).alloc _)).trans ht)
    clear hd hc ht
    go_wp2_with fail
    go_ret
    exact ⟨rfl, HD.out, HT.out⟩
  by_cases k6 : o.kind = 6
  · skip
    have hc := fun w1 (hk : Kp No w w1) => m_flip o.name w1 (h.kept hk) o.n hwf
    have he : doD o x = flipD o.name o.n x := by unfold doD; simp [k6]
    rw [he]
    obtain ⟨Z, hZ⟩ : ∃ Z, flipD o.name o.n x = Z := ⟨_, rfl⟩
    rw [hZ] at hc ⊢
    unfold opAgg
    rw [k6]
    clear he k6 hv h hZ k1 k2 k3
    go_enter Try.func24, Try.ntmps24
    go_wp2_with fail
    refine (hc _ ((Kp.refl No w).alloc _)).mono ?_
    rintro e w2 ⟨rfl, hd, ht⟩
    have HD := Lib.hid hd
    have HT := Lib.hid ((KpD.ofNo ((Kp.refl No w).alloc _)).trans ht)
    clear hd hc ht
    go_wp2_with fail
    go_ret
    exact ⟨rfl, HD.out, HT.out⟩
  by_cases k4 : o.kind = 4
  · have hc := fun w1 (hk : Kp No w w1) => m_fuse w1 (h.kept hk) o.n hwf
    have he : doD o x = (0, fuseD o.n x) := by unfold doD; simp [k4]
    rw [he]
    obtain ⟨Z, hZ⟩ : ∃ Z, fuseD o.n x = Z := ⟨_, rfl⟩
    rw [hZ] at hc ⊢
    unfold opAgg
    rw [k4]
    clear he k1 k2 k3 k4 k6 hv h hZ
    go_enter Try.func24, Try.ntmps24
    go_wp2_with fail
    refine (hc _ ((Kp.refl No w).alloc _)).mono ?_
    rintro e w2 ⟨rfl, hd, ht⟩
    have HD := Lib.hid hd
    have HT := Lib.hid ((KpD.ofNo ((Kp.refl No w).alloc _)).trans ht)
    clear hd hc ht
    go_wp2_with fail
    go_ret
    exact ⟨rfl, HD.out, HT.out⟩
  by_cases k5 : o.kind = 5
  · have hc := fun w1 (hk : Kp No w w1) => m_crash w1 (h.kept hk) A c o.keeps S hn ((Rp.slice _).keptNo hv hk) hS
    have he : doD o x = (0, crashD o.keeps x) := by unfold doD; simp [k5]
    rw [he]
    obtain ⟨Z, hZ⟩ : ∃ Z, crashD o.keeps x = Z := ⟨_, rfl⟩
    rw [hZ] at hc ⊢
    unfold opAgg
    rw [k5]
    clear he k1 k2 k3 k4 k5 k6 hv h hZ
    go_enter Try.func24, Try.ntmps24
    go_wp2_with fail
    refine (hc _ ((Kp.refl No w).alloc _)).mono ?_
    rintro e w2 ⟨rfl, hd, ht⟩
    have HD := Lib.hid hd
    have HT := Lib.hid ((KpD.ofNo ((Kp.refl No w).alloc _)).trans ht)
    clear hd hc ht
    go_wp2_with fail
    go_ret
    exact ⟨rfl, HD.out, HT.out⟩
  · have he : doD o x = (0, x) := by unfold doD; simp [k1, k2, k3, k4, k5, k6]
    rw [he]
    have HD := Lib.hid h
    unfold opAgg
    clear he hv h
    obtain ⟨K, hK⟩ : ∃ K, o.kind = K := ⟨_, rfl⟩
    rw [hK] at k1 k2 k3 k4 k5 k6 ⊢
    clear hK
    go_enter Try.func24, Try.ntmps24
    go_wp2_with fail
    go_ret
    exact ⟨rfl, HD.out.kept ((Kp.refl _ _).alloc _), KpD.ofNo ((Kp.refl _ _).alloc _)⟩
end Go.Proofs.Ytflodiljgphkdaa
