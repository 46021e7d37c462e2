/-
  hunt.Serve and the document's, with a bucket or none.
-/
import Derived.Test.YtflodiljgphkdaaGreatServ
import Derived.Test.YtflodiljgphkdaaGreatVD4
import Derived.Test.YtflodiljgphkdaaGreatBkr
namespace Go.Proofs.YtflodiljgphkdaaGreat
open Go.RowKit Go.ChangeShapes Go.WideShapes Go.ChangeAt

/-- all rows but those of some types are as they were -/
def KpQ (Ty : TypeId → Prop) (w w' : World) : Prop := ∃ T, Kp T w w' ∧ ∀ (g : Nat) cs (e : TypeId) fr, w.heap[g]? = some (.cells cs e fr) → T g → Ty e
namespace KpQ
variable {Ty Tz : TypeId → Prop} {w w' a b c w0 : World}
theorem ofNo (h : Kp No w w') : KpQ Ty w w' := ⟨No, h, fun _ _ _ _ _ h => h.elim⟩
theorem refl (Ty : TypeId → Prop) (w : World) : KpQ Ty w w := ofNo (Kp.refl _ _)
theorem size (h : KpQ Ty w w') : w.heap.size ≤ w'.heap.size := by obtain ⟨_, h, _⟩ := h; exact h.size
theorem mono (h : KpQ Ty w w') (ht : ∀ e, Ty e → Tz e) : KpQ Tz w w' := by
  obtain ⟨T, h1, h2⟩ := h
  exact ⟨T, h1, fun g cs e fr hg hT => ht e (h2 g cs e fr hg hT)⟩
theorem trans (h : KpQ Ty a b) (k : KpQ Ty b c) : KpQ Ty a c := by
  obtain ⟨T1, h1, h2⟩ := h
  obtain ⟨T2, k1, k2⟩ := k
  refine ⟨fun g => T1 g ∨ T2 g, (h1.mono fun _ _ h => .inl h).trans k1 fun _ _ h => .inr h, fun g cs e fr hg ht => ?_⟩
  by_cases h3 : T1 g
  · exact h2 g cs e fr hg h3
  · have hlt : g < a.heap.size := (Array.getElem?_eq_some_iff.1 hg).1
    exact k2 g cs e fr ((h1.block g hlt h3).trans hg) (ht.resolve_left h3)
theorem raw (h : KpQ Ty w w') {g : Nat} {cs : Array Value} {e : TypeId} {fr : Nat × Nat} (hb : w.heap[g]? = some (.cells cs e fr)) (he : ¬ Ty e) : w'.heap[g]? = some (.cells cs e fr) := by
  obtain ⟨T, h1, h2⟩ := h
  exact (h1.block g (Array.getElem?_eq_some_iff.1 hb).1 (fun ht => he (h2 g _ e _ hb ht))).trans hb
theorem own (h : KpQ Ty w w') {α : Type} {E : Rp α} {base : Nat} {e : TypeId} {v : Value} {l : List α} (ho : Own E w No base e v l) (he : ¬ Ty e) : Own E w' No base e v l := by
  obtain ⟨T, h1, h2⟩ := h
  exact ho.kept h1 (fun _ hk => hk.elim) fun k hk ht => by
    obtain ⟨cs, hc⟩ := ho.block hk
    exact he (h2 k _ _ _ hc ht)
theorem rvn (h : KpQ Ty w w') {m r : Nat} {kv : Value} {X : VV} (hv : RVn w0 w m r kv X) (h0 : Kp No w0 w') (t1 : ¬ Ty 54) (t2 : ¬ Ty 9) (t3 : ¬ Ty 69) (t4 : ¬ Ty 100) : RVn w0 w' m r kv X := by
  have ho := h.own hv.own t2
  have hb := h.raw hv.blk t1
  obtain ⟨T, h1, h2⟩ := h
  refine ⟨hb, ho, hv.disk.others h1 h0 fun k cs e fr hk hc => ?_, hv.ge⟩
  have := h2 k cs e fr hc hk
  exact ⟨fun e1 => t3 (e1 ▸ this), fun e1 => t4 (e1 ▸ this)⟩
end KpQ
/-- what the program's Serve may turn -/
def PB (e : TypeId) : Prop := VT e ∨ e = 102
instance (e : TypeId) : Decidable (PB e) := by unfold PB; exact inferInstance
/-- what the document's may -/
def DB (e : TypeId) : Prop := RT e ∨ e = 57
instance (e : TypeId) : Decidable (DB e) := by unfold DB; exact inferInstance
theorem KpV.q {w w' : World} (h : KpV w w') : KpQ PB w w' := by
  obtain ⟨T, h1, h2⟩ := h
  exact ⟨T, h1, fun g cs e fr hg ht => .inl (h2 g cs e fr hg ht)⟩
theorem KpB.q {kb : Nat} {w w' : World} {r u s : Int} (h : KpB kb w w') (hb : Bk w kb r u s) : KpQ PB w w' := by
  obtain ⟨T, h1, h2⟩ := h
  refine ⟨T, h1, fun g cs e fr hg ht => ?_⟩
  rcases h2 g cs e fr hg ht with h | rfl
  · exact .inl h
  · have := hb.1
    rw [hg] at this; injection this with this; injection this with _ this
    exact .inr this
theorem KpTy.db {w0 w w' : World} (h : KpTy RT w0 w w') : KpTy DB w0 w w' := h.mono fun _ => .inl
theorem KpTy.q {Ty : TypeId → Prop} {w0 w w' : World} (h : KpTy Ty w0 w w') : KpQ Ty w w' := by
  obtain ⟨T, h1, h2⟩ := h
  refine ⟨T, h1, fun g cs e fr hg ht => ?_⟩
  obtain ⟨_, cs', e', hc, he⟩ := h2 g ht
  rw [hg] at hc; injection hc with hc; injection hc with _ hc; rw [hc]; exact he
theorem KpTy.vaultD {w0 w w' : World} (h : KpTy DB w0 w w') {v d : Nat} {X : VV} (hv : VNew w0 w v d X) : VNew w0 w' v d X := by
  obtain ⟨T, h1, h2⟩ := h
  exact hv.others h1 (fun k hk => (h2 k hk).1) fun k hk => by
    obtain ⟨_, cs, e, hc, he⟩ := h2 k hk
    refine ⟨cs, e, _, hc, ?_⟩
    rcases he with he | rfl
    · exact he.notV
    · decide
/-- the program's bucket, or none -/
def BO (w0 w : World) (bv : Value) (b : Option Int) (r u : Int) : Prop := (b = none ∧ bv = .pointer none) ∨ ∃ kb n, b = some n ∧ bv = .pointer (some ⟨kb, 0, none⟩) ∧ Bk w kb r u (u - n) ∧ w0.heap.size ≤ kb
/-- the document's -/
def RO (w0 w : World) (bv : Value) (b : Option Int) (r u : Int) : Prop := (b = none ∧ bv = .pointer none) ∨ ∃ kb n, b = some n ∧ bv = .pointer (some ⟨kb, 0, none⟩) ∧ Rk w kb r u n ∧ w0.heap.size ≤ kb
theorem BO.keptQ {Ty : TypeId → Prop} {w0 w w' : World} {bv : Value} {b : Option Int} {r u : Int} (h : BO w0 w bv b r u) (hk : KpQ Ty w w') (ht : ¬ Ty 102) : BO w0 w' bv b r u := by
  rcases h with h | ⟨kb, n, h1, h2, h3, h4⟩
  · exact .inl h
  · exact .inr ⟨kb, n, h1, h2, ⟨hk.raw h3.1 ht, h3.2⟩, h4⟩
theorem RO.keptQ {Ty : TypeId → Prop} {w0 w w' : World} {bv : Value} {b : Option Int} {r u : Int} (h : RO w0 w bv b r u) (hk : KpQ Ty w w') (ht : ¬ Ty 57) : RO w0 w' bv b r u := by
  rcases h with h | ⟨kb, n, h1, h2, h3, h4⟩
  · exact .inl h
  · exact .inr ⟨kb, n, h1, h2, ⟨hk.raw h3.1 ht, h3.2⟩, h4⟩
theorem Fr.trans {w w1 : World} {a b c : Value} (h : Fr w a b) (k : Fr w1 b c) (hs : w.heap.size ≤ w1.heap.size) : Fr w a c := by
  rcases k with rfl | k
  · exact h
  · exact .inr fun g hg => Nat.le_trans hs (k g hg)

theorem wpList_append_lit2 {α : Type} {E : Rp α} {enc : α → Value} {PP : α → Prop} (hbE : Rp.By E enc PP) {P : Program} {ops : Array Oper} {rest : List Oper} {o : Oper} {a : Act} {Q : Exit → Act → World → Prop} (hgd : o.guard = none) (w : World) (sl x : Operand) (t : TypeId)
    (ho : o.op = .call { callee := .builtin .append, args := #[sl, x], argTypes := #[t, t] })
    (base : Nat) (e : TypeId) (bytes : Nat) (el : Elem P t e 1 bytes) (v : Value) (l : List α) (hs : a.eval sl = v) (S : Nat → Prop) (hown : Own E w S base e v l)
    (g : Nat) (m : List α) (hx : a.eval x = .slice (some ⟨g, 0, none⟩) m.length m.length) (cs : Array Value) (e' : TypeId) (fr : Nat × Nat) (hg : w.heap[g]? = some (.cells cs e' fr)) (hcs : cs.toList = m.map enc) (hp : ∀ a ∈ m, PP a)
    (hcap : l.length + m.length ≤ maxLen) (hbytes : (l.length + m.length) * bytes ≤ 140737488355328) (hbase : base ≤ w.heap.size) (hvg : v.ownBlock ≠ some g)
    (h : ∀ A c w', Own E w' No base e (.slice A (l ++ m).length c) (l ++ m) → Kp (fun k => v.ownBlock = some k) w w' → ((Value.slice A (l ++ m).length c).ownBlock = v.ownBlock ∨ (Value.slice A (l ++ m).length c).ownBlock = some w.heap.size) → wpList P ops Q rest (a.put o.dst (.slice A (l ++ m).length c)) w') : wpList P ops Q (o :: rest) a w := by
  refine wpList_append_rp (E := E) hgd w sl x t ho base e bytes (by rw [hbE.size]; exact el) (· = g) v l hs (Own.by_any hbE hown _) (some ⟨g, 0, none⟩) m.length (· = g) m hx
    (Rp.of_block1 hbE.size enc hg rfl hcs (Nat.le_refl _) (by omega) (fun a ha => (hbE.R _ _ _ _).2 ⟨rfl, hp a ha⟩)) hbE.one_all hcap hbytes hbase (fun _ h => h) (fun k hk he => hvg (by rw [hk, he])) ?_
  intro v' w' hown' hgr hb
  obtain ⟨A', c', rfl⟩ := hown'.shape
  exact h A' c' w' (Own.by_any hbE hown' _) ((Kp.refl _ w).grown hgr (fun g hg _ => hg)) hb

/-- what goes out without a bucket -/
def serve0 : List ByteArray → VV → List ByteArray × VV
  | [], X => ([], X)
  | h :: t, X => if (getV h X).1.2 ≠ 0 then serve0 t (getV h X).2 else ((getV h X).1.1 :: (serve0 t (getV h X).2).1, (serve0 t (getV h X).2).2)
def S0Rel (l : List ByteArray) (X : VV) (k : Nat) (O : List ByteArray) (Z : VV) : Prop := serve0 l X = (O ++ (serve0 (l.drop k) Z).1, (serve0 (l.drop k) Z).2)
namespace S0Rel
variable {l O : List ByteArray} {X Z : VV} {k : Nat} {h : ByteArray}
theorem zero : S0Rel l X 0 [] X := by unfold S0Rel; simp
theorem skip (hr : S0Rel l X k O Z) (hk : l[k]? = some h) (he : (getV h Z).1.2 ≠ 0) : S0Rel l X (k + 1) O (getV h Z).2 := by
  unfold S0Rel at *
  rw [hr, drop_cons hk, serve0, if_pos he]
theorem more (hr : S0Rel l X k O Z) (hk : l[k]? = some h) (he : (getV h Z).1.2 = 0) : S0Rel l X (k + 1) (O ++ [(getV h Z).1.1]) (getV h Z).2 := by
  unfold S0Rel at *
  rw [hr, drop_cons hk, serve0, if_neg (by simp [he])]
  simp
theorem done (hr : S0Rel l X l.length O Z) : serve0 l X = (O, Z) := by
  unfold S0Rel at hr
  rw [hr, List.drop_length]
  simp [serve0]
end S0Rel
def serveO (l : List ByteArray) (X : VV) : Option Int → List ByteArray × VV × Option Int
  | none => ((serve0 l X).1, (serve0 l X).2, none)
  | some n => ((serveV l X n).1, (serveV l X n).2.1, some (serveV l X n).2.2)
set_option maxRecDepth 100000 in
set_option maxHeartbeats 4000000 in
theorem h_serve0 {w0 : World} {v d : Nat} {X : VV} (l : List ByteArray) (A : Option Addr) (c : Nat) (w : World) (S : Nat → Prop) (hv : VNew w0 w v d X)
    (hl : Rp.str.slice.R w S [.slice A l.length c] l) (hS : ∀ k, S k → ∃ cs e fr, w.heap[k]? = some (.cells cs e fr) ∧ ¬ PB e) (hll : l.length ≤ 1000000) (hls : ∀ x ∈ l, x.size ≤ 1048576) :
    Calls Tryz.prog 19 #[.pointer (some ⟨v, 0, none⟩), .pointer none, .slice A l.length c] w fun e w' => ∃ Ao co O Z, serve0 l X = (O, Z) ∧ e = .returned (.slice Ao O.length co) ∧ Own Rp.str w' No w.heap.size 9 (.slice Ao O.length co) O ∧ VNew w0 w' v d Z ∧ KpQ PB w w' := by
  have HSL := Lib.hid (fun wr (hk : KpQ PB w wr) => (show Rp.str.slice.R wr S [.slice A l.length c] l from by
    obtain ⟨T, h1, h2⟩ := hk
    exact Rp.str.slice.kept hl h1 fun k hk _ ht => by
      obtain ⟨cs, e, fr, hc, he⟩ := hS k hk
      exact he (h2 k cs e fr hc ht)))
  have HLS := Lib.hid hls
  have HV := Lib.hid hv
  have HW0 := Lib.hid hv.kp.size
  clear hl hS hls hv
  go_enter Tryz.func19, Tryz.ntmps19
  go_wp2_with fail
  go_loopw [7, 14] (fun ov iv wr => ∃ (k : Nat) (O : List ByteArray) (Z : VV), k ≤ l.length ∧ iv = .int .i64 (k : Int) ∧ Own Rp.str wr No w.heap.size 9 ov O ∧ VNew w0 wr v d Z ∧ Hid (KpQ PB w wr) ∧ Hid (S0Rel l X k O Z) ∧ O.length ≤ k) (fun _ iv _ => l.length - (intOf iv).toNat)
  case atStart => exact ⟨0, [], X, Nat.zero_le _, rfl, Own.nil _ _ _ _ _, HV.out, Lib.hid (KpQ.refl _ _), Lib.hid S0Rel.zero, Nat.le_refl _⟩
  case round =>
    clear HV
    obtain ⟨k, O, Z, hk, rfl, hown, hv, HKP, HR, hol⟩ := hrel
    obtain ⟨Av, cv, rfl⟩ := hown.shape
    have HO := Lib.hid hown
    have HV := Lib.hid hv
    have HOL := Lib.hid hol
    clear hown hv hol
    by_cases hlt : k < l.length
    · have hli : (k : Int) < (l.length : Int) := by omega
      obtain ⟨x, hx⟩ : ∃ x, l[k]? = some x := ⟨_, List.getElem?_eq_getElem hlt⟩
      obtain ⟨ad, rfl, _, hcell, _⟩ := Rp.at_str (HSL.out wr HKP.out) hx
      have hc := g_get x wr HV.out (HLS.out x (List.mem_of_getElem? hx))
      have hcs := getV_cases x Z
      have hsk := fun he => HR.out.skip hx he
      have hmo := fun he => HR.out.more hx he
      obtain ⟨R, hR⟩ : ∃ R, getV x Z = R := ⟨_, rfl⟩
      rw [hR] at hc hcs hsk hmo
      have HC := Lib.hid hc
      have HCS := Lib.hid hcs
      have HSK := Lib.hid hsk
      have HMO := Lib.hid hmo
      clear hx hc hcs hsk hmo hR HR
      go_wp2_with fail
      refine HC.out.mono ?_
      rintro e w3 ⟨rfl, hv, hkv⟩
      have HV3 := Lib.hid hv
      have HO3 := Lib.hid (hkv.own HO.out (by decide))
      have HK3 := Lib.hid (HKP.out.trans hkv.q)
      clear hv hkv HC hcell HO HV HKP
      rcases HCS.out with ⟨s, hs, hs0, hs64, hsd⟩ | ⟨er, her, hne⟩
      · rw [hs] at HMO
        rw [hs]
        have hrel := HMO.out rfl
        have HR := Lib.hid hrel
        have HSS : Hid (s.size ≤ maxLen) := Lib.hid (by unfold maxLen; omega)
        have hol2 : O.length ≤ 1000000 := by have := HOL.out; omega
        clear hs hs0 hs64 hsd hrel HMO HSK HCS
        go_wp2_with (at_builtin; refine wpList_append_lit Rp.str_by rfl _ (.tmp 36) (.tmp 38) 22 rfl w.heap.size 9 16 el_strS (.slice Av O.length cv) O rfl No ?d0 w3.heap.size [s] rfl _ _ _ (heap_alloc_new _ _) ?d1 ?d2 ?d3 ?d4 ?d5 ?d6 ?_)
        case d0 => exact HO3.out.alloc _
        case d2 => intro a ha; simp only [List.mem_cons, List.not_mem_nil, or_false] at ha; subst ha; exact HSS.out
        case d3 => simp [maxLen]; omega
        case d4 => simp; omega
        case d5 => have := HK3.out.size; simp; omega
        case d6 => intro h; have := (HO3.out.lt _ h).2; omega
        intro A3 c3 w6 hown hk6
        have HO6 := Lib.hid hown
        have hk7 : Kp (fun k => (Value.slice Av O.length cv).ownBlock = some k) w3 w6 := ((Kp.refl _ w3).alloc _).trans hk6 (fun i hi hv => hv)
        have HV6 := Lib.hid (HV3.out.others hk7 (fun k hk => by have := (HO3.out.lt k hk).1; have := HW0.out; omega) (fun k hk => by obtain ⟨cs, hc⟩ := HO3.out.block hk; exact ⟨cs, _, _, hc, by decide⟩))
        have HK6 : Hid (KpQ PB w w6) := Lib.hid (by
          obtain ⟨T, h1, h2⟩ := HK3.out
          exact ⟨T, h1.trans hk7 (fun i hi h => absurd (HO3.out.lt i h).1 (by omega)), h2⟩)
        clear hown hk6 hk7 HO3 HV3 HK3
        go_wp2_with fail
        go_roundw
        case rel => exact ⟨k + 1, O ++ [s], R.2, by omega, by go_num, HO6.out, HV6.out, HK6, HR, by have := HOL.out; rw [List.length_append]; simp; omega⟩
        case measure => simp [intOf]; omega
      · have hrel := HSK.out (by rw [her]; exact hne)
        have HR := Lib.hid hrel
        rw [her]
        have he1 : (er != 0) = true := by simpa using hne
        have he2 : (er == 0) = false := by simpa using hne
        clear her HCS HSK HMO hrel
        go_wp2_with fail
        go_roundw
        case rel => exact ⟨k + 1, O, R.2, by omega, by go_num, HO3.out, HV3.out, HK3, HR, by have := HOL.out; omega⟩
        case measure => simp [intOf]; omega
    · obtain rfl : k = l.length := by omega
      go_wp2_with fail
      go_ret
      exact ⟨_, _, O, Z, HR.out.done, rfl, HO.out, HV.out, HKP.out⟩
theorem h_serveO {w0 : World} {v d : Nat} {X : VV} {bv : Value} {b : Option Int} {r u : Int} (l : List ByteArray) (A : Option Addr) (c : Nat) (w : World) (S : Nat → Prop) (hv : VNew w0 w v d X) (hb : BO w0 w bv b r u)
    (hl : Rp.str.slice.R w S [.slice A l.length c] l) (hS : ∀ k, S k → ∃ cs e fr, w.heap[k]? = some (.cells cs e fr) ∧ ¬ PB e) (hll : l.length ≤ 1000000) (hls : ∀ x ∈ l, x.size ≤ 1048576) :
    Calls Tryz.prog 19 #[.pointer (some ⟨v, 0, none⟩), bv, .slice A l.length c] w fun e w' => ∃ Ao co O Z b', serveO l X b = (O, Z, b') ∧ e = .returned (.slice Ao O.length co) ∧ Own Rp.str w' No w.heap.size 9 (.slice Ao O.length co) O ∧ VNew w0 w' v d Z ∧ BO w0 w' bv b' r u ∧ KpQ PB w w' := by
  rcases hb with ⟨rfl, rfl⟩ | ⟨kb, n, rfl, rfl, hb, hkb⟩
  · refine (h_serve0 l A c w S hv hl hS hll hls).mono fun e w' ⟨Ao, co, O, Z, h1, h2, h3, h4, h5⟩ => ⟨Ao, co, O, Z, none, ?_, h2, h3, h4, .inl ⟨rfl, rfl⟩, h5⟩
    unfold serveO; rw [h1]
  · refine (h_serve l A c w S hv hb hkb hl (fun k hk => ?_) (fun hk => ?_) hll hls).mono fun e w' ⟨Ao, co, O, Z, m, h1, h2, h3, h4, h5, h6⟩ => ⟨Ao, co, O, Z, some m, ?_, h2, h3, h4, .inr ⟨kb, m, rfl, rfl, h5, hkb⟩, h6.q hb⟩
    · obtain ⟨cs, e, fr, h1, h2⟩ := hS k hk
      exact ⟨cs, e, fr, h1, fun h => h2 (.inl h)⟩
    · obtain ⟨cs, e, fr, h1, h2⟩ := hS kb hk
      have := hb.1
      rw [h1] at this; injection this with this; injection this with _ this
      exact h2 (.inr this)
    · rw [show u - (u - n) = n by omega] at h1
      unfold serveO; simp only; rw [h1]

theorem getV_files (h : ByteArray) (X : VV) : (getV h X).2.d.files.length ≤ X.d.files.length := by
  have hd : (dropV h X).2.d.files.length ≤ X.d.files.length := by
    unfold dropV
    split
    · exact removeD_files _ _
    · exact removeD_files _ _
  unfold getV
  split
  · exact Nat.le_refl _
  split
  · exact Nat.le_refl _
  split
  · exact Nat.le_refl _
  split
  · exact hd
  · exact hd
/-- the names' row and another one's are two -/
def Apart (ov kv : Value) : Prop := ∀ k, ov.ownBlock = some k → kv.ownBlock ≠ some k
theorem Apart.fr {w : World} {ov kv kv' : Value} (h : Apart ov kv) (hf : Fr w kv kv') (ho : ∀ k, ov.ownBlock = some k → k < w.heap.size) : Apart ov kv' := by
  rcases hf with rfl | hf
  · exact h
  · intro k hk hk'
    have := ho k hk
    have := hf k hk'
    omega
theorem Apart.grow {ov ov' kv : Value} {g : Nat} (h : Apart ov kv) (ho : ov'.ownBlock = ov.ownBlock ∨ ov'.ownBlock = some g) (hk : ∀ k, kv.ownBlock = some k → k < g) : Apart ov' kv := by
  intro k h1 h2
  rcases ho with ho | ho
  · exact h k (by rw [← ho]; exact h1) h2
  · rw [ho] at h1
    injection h1 with h1
    have := hk k h2
    omega
theorem RVn.keptS {S : Nat → Prop} {w0 w w' : World} {m r : Nat} {kv : Value} {X : VV} (h : RVn w0 w m r kv X) (hk : Kp S w w') (h0 : ∀ k, S k → w0.heap.size ≤ k) (hs : ∀ k, S k → kv.ownBlock ≠ some k ∧ ∃ cs fr, w.heap[k]? = some (.cells cs 9 fr)) : RVn w0 w' m r kv X := by
  refine ⟨Blk.kept h.blk hk (fun hm => ?_), h.own.kept hk (fun _ hk => hk.elim) (fun k h1 h2 => (hs k h2).1 h1), h.disk.others hk (h.disk.kp.trans hk fun i hi hsi => absurd (h0 i hsi) (by omega)) (fun k cs e fr hk hc => ?_), h.ge⟩
  · obtain ⟨_, cs, fr, hc⟩ := hs m hm
    have hb : w.heap[m]? = some (.cells _ 54 (0, 0)) := h.blk
    rw [hc] at hb; injection hb with hb; injection hb with _ hb; exact absurd hb (by decide)
  · obtain ⟨_, cs', fr', hc'⟩ := hs k hk
    rw [hc'] at hc; injection hc with hc; injection hc with _ hc
    subst hc; decide

theorem own_ne_rk {α : Type} {E : Rp α} {w : World} {S : Nat → Prop} {base : Nat} {e : TypeId} {v : Value} {l : List α} {kb : Nat} {r u s : Int} (h : Own E w S base e v l) (hb : Rk w kb r u s) (he : e ≠ 57) : ∀ k, v.ownBlock = some k → k ≠ kb := by
  rintro k hk rfl
  obtain ⟨cs, hc⟩ := h.block hk
  have := hb.1
  rw [hc] at this
  injection this with this
  injection this with _ this
  exact he this
theorem RVn.keptK {w0 w w' : World} {m r kb : Nat} {kv : Value} {X : VV} {rr uu n : Int} (h : RVn w0 w m r kv X) (hk : Kp (· = kb) w w') (h0 : w0.heap.size ≤ kb) (hb : Rk w kb rr uu n) : RVn w0 w' m r kv X := by
  refine KpQ.rvn (Ty := fun e => e = 57) ⟨(· = kb), hk, ?_⟩ h (h.disk.kp.trans hk fun i hi e => absurd h0 (by omega)) (by decide) (by decide) (by decide) (by decide)
  rintro g cs e fr hg rfl
  have := hb.1
  rw [hg] at this; injection this with this; injection this with _ this
set_option maxRecDepth 100000 in
set_option maxHeartbeats 4000000 in
theorem e_serve0 {w0 : World} {m r : Nat} {kv : Value} {X : VV} (l : List ByteArray) (A : Option Addr) (c : Nat) (w : World) (S : Nat → Prop) (hv : RVn w0 w m r kv X) (hX : Loose X) (hfl : X.d.files.length ≤ 1000000)
    (hl : Rp.str.slice.R w S [.slice A l.length c] l) (hS : ∀ k, S k → ∃ cs e fr, w.heap[k]? = some (.cells cs e fr) ∧ ¬ DB e) (hll : l.length ≤ 1000000) (hls : ∀ x ∈ l, x.size ≤ 1048576) :
    Calls Tryz.prog 20 #[.pointer (some ⟨m, 0, none⟩), .pointer none, .slice A l.length c] w fun e w' => ∃ Ao co O Z kv', serve0 l X = (O, Z) ∧ e = .returned (.slice Ao O.length co) ∧ Own Rp.str w' No w.heap.size 9 (.slice Ao O.length co) O ∧ RVn w0 w' m r kv' Z ∧ Fr w kv kv' ∧ KpTy DB w0 w w' := by
  have HSL := Lib.hid (fun wr (hk : KpTy DB w0 w wr) => (show Rp.str.slice.R wr S [.slice A l.length c] l from by
    obtain ⟨T, h1, h2⟩ := hk.q
    exact Rp.str.slice.kept hl h1 fun k hk _ ht => by
      obtain ⟨cs, e, fr, hc, he⟩ := hS k hk
      exact he (h2 k cs e fr hc ht)))
  have HLS := Lib.hid hls
  have HV := Lib.hid hv
  have HX := Lib.hid hX
  have HFL := Lib.hid hfl
  have HW0 := Lib.hid hv.disk.kp.size
  clear hl hS hls hv hX hfl
  go_enter Tryz.func20, Tryz.ntmps20
  go_wp2_with fail
  go_loopw [7, 8] (fun ov iv wr => ∃ (k : Nat) (O : List ByteArray) (Z : VV) (kvk : Value), k ≤ l.length ∧ iv = .int .i64 (k : Int) ∧ Own Rp.str wr No w.heap.size 9 ov O ∧ RVn w0 wr m r kvk Z ∧ Hid (Fr w kv kvk) ∧ Hid (Apart ov kvk) ∧ Hid (Loose Z) ∧ Z.d.files.length ≤ 1000000 ∧ Hid (KpTy DB w0 w wr) ∧ Hid (S0Rel l X k O Z) ∧ O.length ≤ k) (fun _ iv _ => l.length - (intOf iv).toNat)
  case atStart => exact ⟨0, [], X, kv, Nat.zero_le _, rfl, Own.nil _ _ _ _ _, HV.out, Lib.hid (.inl rfl), Lib.hid (fun k hk => by cases hk), HX, HFL.out, Lib.hid (KpTy.refl _ _ _), Lib.hid S0Rel.zero, Nat.le_refl _⟩
  case round =>
    clear HV HX HFL
    obtain ⟨k, O, Z, kvk, hk, rfl, hown, hv, HFR, HAP, HX, hfl, HKP, HR, hol⟩ := hrel
    obtain ⟨Av, cv, rfl⟩ := hown.shape
    have HO := Lib.hid hown
    have HV := Lib.hid hv
    have HOL := Lib.hid hol
    have HFL := Lib.hid hfl
    clear hown hv hol hfl
    by_cases hlt : k < l.length
    · have hli : (k : Int) < (l.length : Int) := by omega
      obtain ⟨x, hx⟩ : ∃ x, l[k]? = some x := ⟨_, List.getElem?_eq_getElem hlt⟩
      obtain ⟨ad, rfl, _, hcell, _⟩ := Rp.at_str (HSL.out wr HKP.out) hx
      have hc := e_get x (HLS.out x (List.mem_of_getElem? hx)) wr HV.out HX.out HFL.out
      have hcs := getV_cases x Z
      have hlo := HX.out.get x
      have hfi := getV_files x Z
      have hsk := fun he => HR.out.skip hx he
      have hmo := fun he => HR.out.more hx he
      obtain ⟨R, hR⟩ : ∃ R, getV x Z = R := ⟨_, rfl⟩
      rw [hR] at hc hcs hlo hfi hsk hmo
      have HC := Lib.hid hc
      have HCS := Lib.hid hcs
      have HLO := Lib.hid hlo
      have HFI := Lib.hid (Nat.le_trans hfi HFL.out)
      have HSK := Lib.hid hsk
      have HMO := Lib.hid hmo
      clear hx hc hcs hlo hfi hsk hmo hR HR
      go_wp2_with fail
      refine HC.out.mono ?_
      rintro e w2 ⟨rfl, ⟨kv2, hv2, hf2⟩, hk2⟩
      have HV2 := Lib.hid hv2
      have HFR2 := Lib.hid (HFR.out.trans hf2 HKP.out.size)
      have HAP2 := Lib.hid (HAP.out.fr hf2 (fun k hk => (HO.out.lt k hk).2))
      have HO2 := Lib.hid (hk2.own HO.out (by decide))
      have HK2 := Lib.hid (HKP.out.trans hk2.db)
      clear hv2 hf2 hk2 HC hcell HO HV HKP HFR HAP HX HFL
      rcases HCS.out with ⟨s, hs, hs0, hs64, hsd⟩ | ⟨er, her, hne⟩
      · rw [hs] at HMO
        rw [hs]
        have hrel := HMO.out rfl
        have HR := Lib.hid hrel
        have HSS : Hid (s.size ≤ maxLen) := Lib.hid (by unfold maxLen; omega)
        have hol2 : O.length ≤ 1000000 := by have := HOL.out; omega
        have HO3 := HO2
        have HV3 := HV2
        have HK3 := HK2
        have HAP3 := HAP2
        clear hs hs0 hs64 hsd hrel HMO HSK HCS HO2 HV2 HK2 HAP2
        go_wp2_with (at_builtin; refine wpList_append_lit2 Rp.str_by rfl _ (.tmp 38) (.tmp 40) 22 rfl w.heap.size 9 16 el_strS (.slice Av O.length cv) O rfl No ?d0 w2.heap.size [s] rfl _ _ _ (heap_alloc_new _ _) ?d1 ?d2 ?d3 ?d4 ?d5 ?d6 ?_)
        case d0 => exact HO3.out.alloc _
        case d2 => intro a ha; simp only [List.mem_cons, List.not_mem_nil, or_false] at ha; subst ha; exact HSS.out
        case d3 => simp [maxLen]; omega
        case d4 => simp; omega
        case d5 => have := HK3.out.size; simp; omega
        case d6 => intro h; have := (HO3.out.lt _ h).2; omega
        intro A3 c3 w6 hown hk6 hbl
        have HO6 := Lib.hid hown
        have hk7 : Kp (fun k => (Value.slice Av O.length cv).ownBlock = some k) w2 w6 := ((Kp.refl _ w2).alloc _).trans hk6 (fun i hi hv => hv)
        have HV6 := Lib.hid (HV3.out.keptS hk7 (fun k hk => Nat.le_trans HW0.out (HO3.out.lt k hk).1) (fun k hk => ⟨HAP3.out k hk, by obtain ⟨cs, hc⟩ := HO3.out.block hk; exact ⟨cs, _, hc⟩⟩))
        have HAP6 := Lib.hid (Apart.grow HAP3.out hbl (fun k hk => by have := (HV3.out.own.lt k hk).2; simp; omega))
        have HK6 : Hid (KpTy DB w0 w w6) := Lib.hid (by
          obtain ⟨T, h1, h2⟩ := HK3.out
          exact ⟨T, h1.trans hk7 (fun i hi h => absurd (HO3.out.lt i h).1 (by omega)), h2⟩)
        clear hown hk6 hk7 hbl HO3 HV3 HK3 HAP3
        go_wp2_with fail
        go_roundw
        case rel => exact ⟨k + 1, O ++ [s], R.2, kv2, by omega, by go_num, HO6.out, HV6.out, HFR2, HAP6, HLO, HFI.out, HK6, HR, by have := HOL.out; rw [List.length_append]; simp; omega⟩
        case measure => simp [intOf]; omega
      · have hrel := HSK.out (by rw [her]; exact hne)
        have HR := Lib.hid hrel
        rw [her]
        have he1 : (er != 0) = true := by simpa using hne
        have he2 : (er == 0) = false := by simpa using hne
        clear her HCS HSK HMO hrel
        go_wp2_with fail
        go_roundw
        case rel => exact ⟨k + 1, O, R.2, kv2, by omega, by go_num, HO2.out, HV2.out, HFR2, HAP2, HLO, HFI.out, HK2, HR, by have := HOL.out; omega⟩
        case measure => simp [intOf]; omega
    · obtain rfl : k = l.length := by omega
      go_wp2_with fail
      go_ret
      exact ⟨_, _, O, Z, kvk, HR.out.done, rfl, HO.out, HV.out, HFR.out, HKP.out⟩
set_option maxRecDepth 100000 in
set_option maxHeartbeats 4000000 in
theorem e_serve {w0 : World} {m r : Nat} {kv : Value} {X : VV} {kb : Nat} {rr uu n0 : Int} (l : List ByteArray) (A : Option Addr) (c : Nat) (w : World) (S : Nat → Prop) (hv : RVn w0 w m r kv X) (hX : Loose X) (hfl : X.d.files.length ≤ 1000000) (hb : Rk w kb rr uu n0) (hkb : w0.heap.size ≤ kb)
    (hl : Rp.str.slice.R w S [.slice A l.length c] l) (hS : ∀ k, S k → ∃ cs e fr, w.heap[k]? = some (.cells cs e fr) ∧ ¬ DB e) (hll : l.length ≤ 1000000) (hls : ∀ x ∈ l, x.size ≤ 1048576) :
    Calls Tryz.prog 20 #[.pointer (some ⟨m, 0, none⟩), .pointer (some ⟨kb, 0, none⟩), .slice A l.length c] w fun e w' => ∃ Ao co O Z n kv', serveV l X n0 = (O, Z, n) ∧ e = .returned (.slice Ao O.length co) ∧ Own Rp.str w' No w.heap.size 9 (.slice Ao O.length co) O ∧ RVn w0 w' m r kv' Z ∧ Fr w kv kv' ∧ Rk w' kb rr uu n ∧ KpTy DB w0 w w' := by
  have HSL := Lib.hid (fun wr (hk : KpTy DB w0 w wr) => (show Rp.str.slice.R wr S [.slice A l.length c] l from by
    obtain ⟨T, h1, h2⟩ := hk.q
    exact Rp.str.slice.kept hl h1 fun k hk _ ht => by
      obtain ⟨cs, e, fr, hc, he⟩ := hS k hk
      exact he (h2 k cs e fr hc ht)))
  have HLS := Lib.hid hls
  have HV := Lib.hid hv
  have HX := Lib.hid hX
  have HFL := Lib.hid hfl
  have HW0 := Lib.hid hv.disk.kp.size
  have HB := Lib.hid hb
  have HKB := Lib.hid hkb
  clear hl hS hls hv hX hfl hb hkb
  go_enter Tryz.func20, Tryz.ntmps20
  go_wp2_with fail
  go_loopw [7, 8] (fun ov iv wr => ∃ (k : Nat) (O : List ByteArray) (Z : VV) (kvk : Value) (n : Int), k ≤ l.length ∧ iv = .int .i64 (k : Int) ∧ Own Rp.str wr No w.heap.size 9 ov O ∧ RVn w0 wr m r kvk Z ∧ Hid (Fr w kv kvk) ∧ Hid (Apart ov kvk) ∧ Hid (Loose Z) ∧ Z.d.files.length ≤ 1000000 ∧ Rk wr kb rr uu n ∧ Hid (KpTy DB w0 w wr) ∧ Hid (SvRel l X n0 k O Z n) ∧ O.length ≤ k) (fun _ iv _ => l.length - (intOf iv).toNat)
  case atStart => exact ⟨0, [], X, kv, n0, Nat.zero_le _, rfl, Own.nil _ _ _ _ _, HV.out, Lib.hid (.inl rfl), Lib.hid (fun k hk => by cases hk), HX, HFL.out, HB.out, Lib.hid (KpTy.refl _ _ _), Lib.hid SvRel.zero, Nat.le_refl _⟩
  case round =>
    clear HV HX HFL HB
    obtain ⟨k, O, Z, kvk, n, hk, rfl, hown, hv, HFR, HAP, HX, hfl, hb, HKP, HR, hol⟩ := hrel
    obtain ⟨Av, cv, rfl⟩ := hown.shape
    have HO := Lib.hid hown
    have HV := Lib.hid hv
    have HOL := Lib.hid hol
    have HFL := Lib.hid hfl
    have HB := Lib.hid hb
    clear hown hv hol hfl hb
    by_cases hlt : k < l.length
    · have hli : (k : Int) < (l.length : Int) := by omega
      obtain ⟨x, hx⟩ : ∃ x, l[k]? = some x := ⟨_, List.getElem?_eq_getElem hlt⟩
      obtain ⟨ad, rfl, _, hcell, _⟩ := Rp.at_str (HSL.out wr HKP.out) hx
      have hc := e_get x (HLS.out x (List.mem_of_getElem? hx)) wr HV.out HX.out HFL.out
      have hcs := getV_cases x Z
      have hlo := HX.out.get x
      have hfi := getV_files x Z
      have hsk := fun he => HR.out.skip hx he
      have hst := fun he hs => HR.out.stop hx he hs
      have hmo := fun he hs => HR.out.more hx he hs
      obtain ⟨R, hR⟩ : ∃ R, getV x Z = R := ⟨_, rfl⟩
      rw [hR] at hc hcs hlo hfi hsk hst hmo
      have HC := Lib.hid hc
      have HCS := Lib.hid hcs
      have HLO := Lib.hid hlo
      have HFI := Lib.hid (Nat.le_trans hfi HFL.out)
      have HSK := Lib.hid hsk
      have HST := Lib.hid hst
      have HMO := Lib.hid hmo
      clear hx hc hcs hlo hfi hsk hst hmo hR HR
      go_wp2_with fail
      refine HC.out.mono ?_
      rintro e w2 ⟨rfl, ⟨kv2, hv2, hf2⟩, hk2⟩
      have HV2 := Lib.hid hv2
      have HFR2 := Lib.hid (HFR.out.trans hf2 HKP.out.size)
      have HAP2 := Lib.hid (HAP.out.fr hf2 (fun k hk => (HO.out.lt k hk).2))
      have HO2 := Lib.hid (hk2.own HO.out (by decide))
      have HK2 := Lib.hid (HKP.out.trans hk2.db)
      have HB2 : Hid (Rk w2 kb rr uu n) := Lib.hid ⟨hk2.q.raw HB.out.1 (by decide), HB.out.2⟩
      clear hv2 hf2 hk2 HC hcell HO HV HKP HFR HAP HX HFL HB
      rcases HCS.out with ⟨s, hs, hs0, hs64, hsd⟩ | ⟨er, her, hne⟩
      · rw [hs] at HMO HST
        rw [hs]
        by_cases hms : n < (s.size : Int)
        · have hfin := HST.out rfl hms
          have HF := Lib.hid hfin
          have ht := r_take kb rr uu n [(s.size : Int)] (some ⟨w2.heap.size, 0, none⟩) 1 (w2.alloc (.cells #[.int .i64 (s.size : Int)] 3)) (fun k => k = w2.heap.size) (HB2.out.kept ((Kp.refl No w2).alloc _) (fun x => x)) (list1 _ (wf_size _ hs64) w2 3) (fun h => by have := HB2.out.lt; omega)
          rw [take1 _ _ (by omega), if_pos hms] at ht
          have HT := Lib.hid ht
          clear hs hs0 hs64 hsd hfin ht HST HMO HSK HCS hms
          go_wp2_with fail
          refine HT.out.mono ?_
          rintro e w3 ⟨rfl, hb3, hk3⟩
          have hb3 : Rk w3 kb rr uu n := hb3
          have HBK3 := Lib.hid hb3
          have hk2 : Kp (· = kb) w2 w3 := ((Kp.refl (· = kb) w2).alloc _).trans hk3 (fun i hi e => e)
          have HV3 := Lib.hid (HV2.out.keptK hk2 HKB.out HB2.out)
          have HO3 := Lib.hid (HO2.out.kept hk2 (fun _ h => h.elim) (fun k hk => own_ne_rk HO2.out HB2.out (by decide) k hk))
          have HAP3 := HAP2
          have HK3 := Lib.hid (HK2.out.trans (show KpTy DB w0 w2 w3 from ⟨(· = kb), hk2, by rintro g rfl; exact ⟨HKB.out, _, _, HB2.out.1, .inr rfl⟩⟩))
          clear hb3 hk3 hk2 HT HV2 HO2 HK2 HB2
          go_wp2_with fail
          go_ret
          exact ⟨_, _, O, R.2, n, kv2, HF.out, rfl, HO3.out, HV3.out, HFR2.out, HBK3.out, HK3.out⟩
        have hrel := HMO.out rfl (by first | exact hms | exact Int.not_lt.1 hms)
        have HR := Lib.hid hrel
        have ht := r_take kb rr uu n [(s.size : Int)] (some ⟨w2.heap.size, 0, none⟩) 1 (w2.alloc (.cells #[.int .i64 (s.size : Int)] 3)) (fun k => k = w2.heap.size) (HB2.out.kept ((Kp.refl No w2).alloc _) (fun x => x)) (list1 _ (wf_size _ hs64) w2 3) (fun h => by have := HB2.out.lt; omega)
        rw [take1 _ _ (by omega), if_neg hms] at ht
        have HT := Lib.hid ht
        have HSS : Hid (s.size ≤ maxLen) := Lib.hid (by unfold maxLen; omega)
        have hol2 : O.length ≤ 1000000 := by have := HOL.out; omega
        clear hs hs0 hs64 hsd hrel ht HMO HST HSK HCS hms
        go_wp2_with fail
        refine HT.out.mono ?_
        rintro e w3 ⟨rfl, hb3, hk3⟩
        have hb3 : Rk w3 kb rr uu (n - (s.size : Int)) := hb3
        have HBK3 := Lib.hid hb3
        have hk2 : Kp (· = kb) w2 w3 := ((Kp.refl (· = kb) w2).alloc _).trans hk3 (fun i hi e => e)
        have HV3 := Lib.hid (HV2.out.keptK hk2 HKB.out HB2.out)
        have HO3 := Lib.hid (HO2.out.kept hk2 (fun _ h => h.elim) (fun k hk => own_ne_rk HO2.out HB2.out (by decide) k hk))
        have HAP3 := HAP2
        have HK3 := Lib.hid (HK2.out.trans (show KpTy DB w0 w2 w3 from ⟨(· = kb), hk2, by rintro g rfl; exact ⟨HKB.out, _, _, HB2.out.1, .inr rfl⟩⟩))
        clear hb3 hk3 hk2 HT HV2 HO2 HK2 HB2 HAP2
        go_wp2_with (at_builtin; refine wpList_append_lit2 Rp.str_by rfl _ (.tmp 38) (.tmp 40) 22 rfl w.heap.size 9 16 el_strS (.slice Av O.length cv) O rfl No ?d0 w3.heap.size [s] rfl _ _ _ (heap_alloc_new _ _) ?d1 ?d2 ?d3 ?d4 ?d5 ?d6 ?_)
        case d0 => exact HO3.out.alloc _
        case d2 => intro a ha; simp only [List.mem_cons, List.not_mem_nil, or_false] at ha; subst ha; exact HSS.out
        case d3 => simp [maxLen]; omega
        case d4 => simp; omega
        case d5 => have := HK3.out.size; simp; omega
        case d6 => intro h; have := (HO3.out.lt _ h).2; omega
        intro A3 c3 w6 hown hk6 hbl
        have HO6 := Lib.hid hown
        have hk7 : Kp (fun k => (Value.slice Av O.length cv).ownBlock = some k) w3 w6 := ((Kp.refl _ w3).alloc _).trans hk6 (fun i hi hv => hv)
        have HV6 := Lib.hid (HV3.out.keptS hk7 (fun k hk => Nat.le_trans HW0.out (HO3.out.lt k hk).1) (fun k hk => ⟨HAP3.out k hk, by obtain ⟨cs, hc⟩ := HO3.out.block hk; exact ⟨cs, _, hc⟩⟩))
        have HAP6 := Lib.hid (Apart.grow HAP3.out hbl (fun k hk => by have := (HV3.out.own.lt k hk).2; simp; omega))
        have HK6 : Hid (KpTy DB w0 w w6) := Lib.hid (by
          obtain ⟨T, h1, h2⟩ := HK3.out
          exact ⟨T, h1.trans hk7 (fun i hi h => absurd (HO3.out.lt i h).1 (by omega)), h2⟩)
        have HB6 := Lib.hid (HBK3.out.kept hk7 (fun h => own_ne_rk HO3.out HBK3.out (by decide) kb h rfl))
        clear hown hk6 hk7 hbl HO3 HV3 HK3 HAP3 HBK3
        go_wp2_with fail
        go_roundw
        case rel => exact ⟨k + 1, O ++ [s], R.2, kv2, n - (s.size : Int), by omega, by go_num, HO6.out, HV6.out, HFR2, HAP6, HLO, HFI.out, HB6.out, HK6, HR, by have := HOL.out; rw [List.length_append]; simp; omega⟩
        case measure => simp [intOf]; omega
      · have hrel := HSK.out (by rw [her]; exact hne)
        have HR := Lib.hid hrel
        rw [her]
        have he1 : (er != 0) = true := by simpa using hne
        have he2 : (er == 0) = false := by simpa using hne
        clear her HCS HSK HMO HST hrel
        go_wp2_with fail
        go_roundw
        case rel => exact ⟨k + 1, O, R.2, kv2, n, by omega, by go_num, HO2.out, HV2.out, HFR2, HAP2, HLO, HFI.out, HB2.out, HK2, HR, by have := HOL.out; omega⟩
        case measure => simp [intOf]; omega
    · obtain rfl : k = l.length := by omega
      go_wp2_with fail
      go_ret
      exact ⟨_, _, O, Z, n, kvk, HR.out.done, rfl, HO.out, HV.out, HFR.out, HB.out, HKP.out⟩
theorem e_serveO {w0 : World} {m r : Nat} {kv : Value} {X : VV} {bv : Value} {b : Option Int} {rr uu : Int} (l : List ByteArray) (A : Option Addr) (c : Nat) (w : World) (S : Nat → Prop) (hv : RVn w0 w m r kv X) (hX : Loose X) (hfl : X.d.files.length ≤ 1000000) (hb : RO w0 w bv b rr uu)
    (hl : Rp.str.slice.R w S [.slice A l.length c] l) (hS : ∀ k, S k → ∃ cs e fr, w.heap[k]? = some (.cells cs e fr) ∧ ¬ DB e) (hll : l.length ≤ 1000000) (hls : ∀ x ∈ l, x.size ≤ 1048576) :
    Calls Tryz.prog 20 #[.pointer (some ⟨m, 0, none⟩), bv, .slice A l.length c] w fun e w' => ∃ Ao co O Z b' kv', serveO l X b = (O, Z, b') ∧ e = .returned (.slice Ao O.length co) ∧ Own Rp.str w' No w.heap.size 9 (.slice Ao O.length co) O ∧ RVn w0 w' m r kv' Z ∧ Fr w kv kv' ∧ RO w0 w' bv b' rr uu ∧ KpTy DB w0 w w' := by
  rcases hb with ⟨rfl, rfl⟩ | ⟨kb, n, rfl, rfl, hb, hkb⟩
  · refine (e_serve0 l A c w S hv hX hfl hl hS hll hls).mono fun e w' ⟨Ao, co, O, Z, kv', h1, h2, h3, h4, h5, h6⟩ => ⟨Ao, co, O, Z, none, kv', ?_, h2, h3, h4, h5, .inl ⟨rfl, rfl⟩, h6⟩
    unfold serveO; rw [h1]
  · refine (e_serve l A c w S hv hX hfl hb hkb hl hS hll hls).mono fun e w' ⟨Ao, co, O, Z, n', kv', h1, h2, h3, h4, h5, h6, h7⟩ => ⟨Ao, co, O, Z, some n', kv', ?_, h2, h3, h4, h5, .inr ⟨kb, n', rfl, rfl, h6, hkb⟩, h7⟩
    unfold serveO; simp only; rw [h1]
end Go.Proofs.YtflodiljgphkdaaGreat
