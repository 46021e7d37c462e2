/-
  A desk (desk.Desk) in memory: New, Len, Add, reply.
-/
import Derived.Test.YtamfgmlhopjppaaGreatGM
import Derived.Test.YtamfgmlhopjppaaGreatGI
import Derived.Test.YtamfgmlhopjppaaGreatGF
import Derived.Laws.ResultCell
namespace Go.Proofs.YtamfgmlhopjppaaGreat
open Go.RowKit Go.ChangeShapes Go.WideShapes Go.ChangeAt

/-- a request that waits -/
structure RowD where
  n : Int
  ask : AskL
  what : Int
  index : Int
  term : Int
  an : Int
  ae : Int
  size : Int
  hashes : List ByteArray
namespace RowD
def cells (r : RowD) (hv : Value) : List Value := [.int .i64 r.n, .int .i64 r.ask.kind, .int .i64 r.ask.client, .int .i64 r.ask.seq, .string r.ask.name, .string r.ask.data, .int .i64 r.ask.mode, .int .i64 r.ask.lag, .int .i64 r.what, .int .i64 r.index, .int .i64 r.term, .int .i64 r.an, .int .i64 r.ae, .int .i64 r.size, hv]
def nums (r : RowD) : Prop := I64 r.n ∧ r.ask.nums ∧ I64 r.what ∧ I64 r.index ∧ I64 r.term ∧ I64 r.an ∧ I64 r.ae ∧ I64 r.size
end RowD
def Rp.rowd : Rp RowD where
  size := 15
  R w S cs r := ∃ hv, cs = r.cells hv ∧ r.nums ∧ Rp.str.slice.R w S [hv] r.hashes
  μ _ := 1
  pos := by omega
  len := by rintro w S cs r ⟨hv, rfl, _⟩; rfl
  keep := by
    rintro w w' S S' cs r hs hk ⟨hv, rfl, h1, h2⟩
    exact ⟨hv, rfl, h1, Rp.str.slice.keep hs hk h2⟩
  bnd := by
    rintro w S cs r ⟨hv, rfl, h1, h2⟩
    exact ⟨hv, rfl, h1, Rp.str.slice.bnd h2⟩
def askW (a : AskL) : Value := .agg #[.int .i64 a.kind, .int .i64 a.client, .int .i64 a.seq, .string a.name, .string a.data, .int .i64 a.mode, .int .i64 a.lag]
def repW (x : RepL) (nv lv : Value) : Value := .agg #[.int .i64 x.ask, .int .i64 x.err, .int .i64 x.an, .int .i64 x.ae, nv, .string x.data, lv]
def reqW (r : RowD) : Value := .agg #[.int .i64 r.n, .int .i64 r.ask.kind, .int .i64 r.ask.client, .int .i64 r.ask.seq, .string r.ask.name, .string r.ask.data, .int .i64 r.ask.mode, .int .i64 r.ask.lag]
theorem el_rowd : Elem Tryz.prog 112 118 15 152 := Elem.of Tryz.underlying112 (z := .agg #[.int .i64 0, .int .i64 0, .int .i64 0, .int .i64 0, .string ByteArray.empty, .string ByteArray.empty, .int .i64 0, .int .i64 0, .int .i64 0, .int .i64 0, .int .i64 0, .int .i64 0, .int .i64 0, .int .i64 0, .slice none 0 0]) (by kernel_rfl) rfl (by decide)
theorem el_rep : Elem Tryz.prog 60 75 7 96 := Elem.of Tryz.underlying60 (z := .agg #[.int .i64 0, .int .i64 0, .int .i64 0, .int .i64 0, .slice none 0 0, .string ByteArray.empty, .slice none 0 0]) (by kernel_rfl) rfl (by decide)
theorem Rp.rowd_one {w : World} : ∀ cs a S', Rp.rowd.R w S' cs a → ∀ u ∈ cs, u.oneCell' = true := by
  rintro cs a S' ⟨hv, rfl, _, A1, c1, e1, _⟩ u hu
  simp only [List.cons.injEq, and_true] at e1
  subst e1
  simp only [RowD.cells, List.mem_cons, List.not_mem_nil, or_false] at hu
  rcases hu with rfl | rfl | rfl | rfl | rfl | rfl | rfl | rfl | rfl | rfl | rfl | rfl | rfl | rfl | rfl <;> rfl
theorem Rp.rep_one {w : World} : ∀ cs a S', Rp.rep.R w S' cs a → ∀ u ∈ cs, u.oneCell' = true := by
  rintro cs a S' ⟨nv, lv, rfl, _, ⟨A1, c1, e1, _⟩, ⟨A2, c2, e2, _⟩⟩ u hu
  simp only [List.cons.injEq, and_true] at e1 e2
  subst e1 e2
  simp only [RepL.cells, List.mem_cons, List.not_mem_nil, or_false] at hu
  rcases hu with rfl | rfl | rfl | rfl | rfl | rfl | rfl <;> rfl
/-- a new row of one request -/
theorem rowd_lit (w : World) (r : RowD) (hv : Value) (S : Nat → Prop) (hS : S w.heap.size) (hn : r.nums) (h1 : Rp.str.slice.R w S [hv] r.hashes) :
    Rp.rowd.slice.R (w.alloc (.cells (r.cells hv).toArray 118)) S [.slice (some ⟨w.heap.size, 0, none⟩) 1 1] [r] := by
  refine ⟨_, _, rfl, Nat.le_refl _, by unfold maxLen; simp, fun _ => ⟨_, rfl, hS, fun i b hi => ?_⟩⟩
  obtain rfl : i = 0 := by have := (List.getElem?_eq_some_iff.1 hi).1; simp at this; exact this
  injection hi with hi
  subst hi
  have hk := (Kp.refl No w).alloc (.cells (r.cells hv).toArray 118)
  refine ⟨r.cells hv, fun j u hu => ?_, _, rfl, hn, Rp.str.slice.keptNo h1 hk⟩
  rw [Addr.add_lit, Addr.add_lit]
  have hb : Blk (w.alloc (.cells (r.cells hv).toArray 118)) w.heap.size 118 (r.cells hv) := Blk.new w _ _
  have h2 := hb.cell hu
  simpa using h2
/-- a new row of one answer -/
theorem rep_lit (w : World) (x : RepL) (nv lv : Value) (S : Nat → Prop) (hS : S w.heap.size) (hn : x.nums) (h1 : Rp.str.slice.R w S [nv] x.names) (h2 : Rp.opl.slice.R w S [lv] x.lost) :
    Rp.rep.slice.R (w.alloc (.cells (x.cells nv lv).toArray 75)) S [.slice (some ⟨w.heap.size, 0, none⟩) 1 1] [x] := by
  refine ⟨_, _, rfl, Nat.le_refl _, by unfold maxLen; simp, fun _ => ⟨_, rfl, hS, fun i b hi => ?_⟩⟩
  obtain rfl : i = 0 := by have := (List.getElem?_eq_some_iff.1 hi).1; simp at this; exact this
  injection hi with hi
  subst hi
  have hk := (Kp.refl No w).alloc (.cells (x.cells nv lv).toArray 75)
  refine ⟨x.cells nv lv, fun j u hu => ?_, _, _, rfl, hn, Rp.str.slice.keptNo h1 hk, Rp.opl.slice.keptNo h2 hk⟩
  rw [Addr.add_lit, Addr.add_lit]
  have hb : Blk (w.alloc (.cells (x.cells nv lv).toArray 75)) w.heap.size 75 (x.cells nv lv) := Blk.new w _ _
  have h2 := hb.cell hu
  simpa using h2
/-- one row of a list of them -/
theorem Rp.at_rowd {w : World} {S : Nat → Prop} {A : Option Addr} {c : Nat} {l : List RowD} (h : Rp.rowd.slice.R w S [.slice A l.length c] l) {i : Nat} {x : RowD} (hi : l[i]? = some x) :
    ∃ ad H ch, A = some ad ∧ S ad.block ∧ (∀ (j : Nat) u, (x.cells (.slice H x.hashes.length ch))[j]? = some u → w.cell? ((ad.add (i * 15)).add j) = some u) ∧ x.nums ∧ Rp.str.slice.R w S [.slice H x.hashes.length ch] x.hashes := by
  obtain ⟨A2, c2, he, _, _, h3⟩ := h
  simp only [List.cons.injEq, Value.slice.injEq, and_true, true_and] at he
  obtain ⟨rfl, rfl⟩ := he
  have hl : 0 < l.length := by have := (List.getElem?_eq_some_iff.1 hi).1; omega
  obtain ⟨ad, rfl, hb, hc⟩ := h3 hl
  obtain ⟨es, he, hv, rfl, hn, h1⟩ := hc i x hi
  obtain ⟨H, ch, e1, _⟩ := id h1
  simp only [List.cons.injEq, and_true] at e1
  subst e1
  exact ⟨ad, H, ch, rfl, hb, fun j u hu => he j u hu, hn, h1⟩
theorem rowd_cells {w : World} {ad : Addr} {r : RowD} {hv : Value} (h : ∀ (j : Nat) u, (r.cells hv)[j]? = some u → w.cell? (ad.add j) = some u) :
    w.cell? ad = some (.int .i64 r.n) ∧ w.cell? ⟨ad.block, ad.off + 1, none⟩ = some (.int .i64 r.ask.kind) ∧ w.cell? ⟨ad.block, ad.off + 2, none⟩ = some (.int .i64 r.ask.client) ∧ w.cell? ⟨ad.block, ad.off + 3, none⟩ = some (.int .i64 r.ask.seq) ∧
    w.cell? ⟨ad.block, ad.off + 4, none⟩ = some (.string r.ask.name) ∧ w.cell? ⟨ad.block, ad.off + 5, none⟩ = some (.string r.ask.data) ∧ w.cell? ⟨ad.block, ad.off + 6, none⟩ = some (.int .i64 r.ask.mode) ∧ w.cell? ⟨ad.block, ad.off + 7, none⟩ = some (.int .i64 r.ask.lag) ∧
    w.cell? ⟨ad.block, ad.off + 8, none⟩ = some (.int .i64 r.what) ∧ w.cell? ⟨ad.block, ad.off + 9, none⟩ = some (.int .i64 r.index) ∧ w.cell? ⟨ad.block, ad.off + 10, none⟩ = some (.int .i64 r.term) ∧ w.cell? ⟨ad.block, ad.off + 11, none⟩ = some (.int .i64 r.an) ∧
    w.cell? ⟨ad.block, ad.off + 12, none⟩ = some (.int .i64 r.ae) ∧ w.cell? ⟨ad.block, ad.off + 13, none⟩ = some (.int .i64 r.size) ∧ w.cell? ⟨ad.block, ad.off + 14, none⟩ = some hv :=
  ⟨h 0 _ rfl, h 1 _ rfl, h 2 _ rfl, h 3 _ rfl, h 4 _ rfl, h 5 _ rfl, h 6 _ rfl, h 7 _ rfl, h 8 _ rfl, h 9 _ rfl, h 10 _ rfl, h 11 _ rfl, h 12 _ rfl, h 13 _ rfl, h 14 _ rfl⟩
/-- a desk: its block, its row; S: what its hashes rest on -/
structure DkIn (w : World) (d : Nat) (rv : Value) (S : Nat → Prop) (L : List RowD) : Prop where
  blk : Blk w d 114 [rv]
  row : Own Rp.rowd w S 0 118 rv L
  rd : rv.ownBlock ≠ some d
  sd : ¬ S d
  sr : ∀ k, S k → rv.ownBlock ≠ some k
  hi : ∀ k, S k → k < w.heap.size
def DkFoot (d : Nat) (rv : Value) (S : Nat → Prop) (k : Nat) : Prop := k = d ∨ rv.ownBlock = some k ∨ S k
def DkAt (w : World) (d : Nat) (L : List RowD) (F : Nat → Prop) : Prop := ∃ rv S, DkIn w d rv S L ∧ ∀ k, F k ↔ DkFoot d rv S k
namespace DkIn
variable {w w' : World} {d : Nat} {rv : Value} {S T : Nat → Prop} {L : List RowD}
theorem kept (h : DkIn w d rv S L) (hk : Kp T w w') (hT : ∀ k, DkFoot d rv S k → ¬ T k) : DkIn w' d rv S L :=
  ⟨h.blk.kept hk (hT d (.inl rfl)), h.row.kept hk (fun k hs _ => hT k (.inr (.inr hs))) (fun k hv => hT k (.inr (.inl hv))), h.rd, h.sd, h.sr, fun k hs => Nat.lt_of_lt_of_le (h.hi k hs) hk.size⟩
theorem keptNo (h : DkIn w d rv S L) (hk : Kp No w w') : DkIn w' d rv S L := h.kept hk (fun _ _ z => z)
theorem lt (h : DkIn w d rv S L) {k : Nat} (hk : DkFoot d rv S k) : k < w.heap.size := by
  rcases hk with rfl | hk | hk
  · exact Blk.lt h.blk
  · exact (h.row.lt k hk).2
  · exact h.hi k hk
end DkIn
namespace DkAt
variable {w w' : World} {d : Nat} {L : List RowD} {F T : Nat → Prop}
theorem kept (h : DkAt w d L F) (hk : Kp T w w') (hT : ∀ k, F k → ¬ T k) : DkAt w' d L F := by
  obtain ⟨rv, S, h1, h2⟩ := h
  exact ⟨rv, S, h1.kept hk (fun k hf => hT k ((h2 k).2 hf)), h2⟩
theorem keptNo (h : DkAt w d L F) (hk : Kp No w w') : DkAt w' d L F := h.kept hk (fun _ _ x => x)
theorem lt (h : DkAt w d L F) {k : Nat} (hk : F k) : k < w.heap.size := by
  obtain ⟨rv, S, h1, h2⟩ := h
  exact h1.lt ((h2 k).1 hk)
end DkAt
set_option maxRecDepth 100000 in
theorem k_new (w : World) : Calls Tryz.prog 69 #[] w fun e w' => ∃ d F, e = .returned (.pointer (some ⟨d, 0, none⟩)) ∧ DkAt w' d [] F ∧ (∀ k, F k → w.heap.size ≤ k) ∧ Kp No w w' := by
  obtain ⟨w1, hw1⟩ : ∃ v, w.alloc (.cells #[.slice none 0 0] 114) = v := ⟨_, rfl⟩
  have hk1 : Kp No w w1 := by rw [← hw1]; exact (Kp.refl _ _).alloc _
  have hb1 : Blk w1 w.heap.size 114 [.slice none 0 0] := by rw [← hw1]; exact Blk.new w _ _
  have HK := Lib.hid hk1
  have HB := Lib.hid hb1
  clear hk1 hb1
  go_enter Tryz.func69, Tryz.ntmps69
  go_wp2_with fail
  try rw [hw1]
  go_ret
  refine ⟨w.heap.size, DkFoot w.heap.size (.slice none 0 0) No, rfl, ⟨_, No, ⟨HB.out, Own.nil _ _ _ _ _, by simp [Value.ownBlock], fun h => h, fun k h => h.elim, fun k h => h.elim⟩, fun k => Iff.rfl⟩, fun k hk => ?_, HK.out⟩
  rcases hk with rfl | h | h
  · exact Nat.le_refl _
  · simp [Value.ownBlock] at h
  · exact h.elim
set_option maxRecDepth 100000 in
theorem k_len (d : Nat) (L : List RowD) (F : Nat → Prop) (w : World) (h : DkAt w d L F) : Calls Tryz.prog 25 #[.pointer (some ⟨d, 0, none⟩)] w fun e w' => e = .returned (.int .i64 L.length) ∧ Kp No w w' := by
  obtain ⟨rv, S, hin, _⟩ := h
  obtain ⟨A, c, rfl⟩ := hin.row.shape
  have k0 : w.cell? ⟨d, 0, none⟩ = some _ := Blk.cell hin.blk rfl
  clear hin
  go_enter Tryz.func25, Tryz.ntmps25
  go_wp2_with fail
  go_ret
  exact ⟨rfl, Kp.refl _ _⟩
set_option maxRecDepth 100000 in
theorem k_len_nil (w : World) : Calls Tryz.prog 25 #[.pointer none] w fun e w' => e = .returned (.int .i64 0) ∧ Kp No w w' := by
  go_enter Tryz.func25, Tryz.ntmps25
  go_wp2_with fail
  go_ret
  exact ⟨rfl, Kp.refl _ _⟩
theorem results_cuD {P : Program} {fn : Func} {p u : Tmp} {ty : TypeId} (h : fn.results = #[.cell p ty, .tmp u]) (tmps : Array Value) (w : World) (g : Nat) (t : TypeId) (cs : Array Value) (fr : Nat × Nat) (d : TypeDesc)
    (hp : tmps.getD p undef = .pointer (some ⟨g, 0, none⟩)) (hg : w.heap[g]? = some (.cells cs t fr)) (hu : P.underlying ty = some d) (hd : (match d with | .struct _ | .array _ _ => true | _ => false) = true) (hi : (P.info? ty).map (·.size) = some cs.size) :
    (results fn tmps).run P w = .ok (.tuple #[.agg cs, tmps.getD u undef]) w := by
  rw [results_cell_tmp h, hp]
  simp [asAddr, run_loadVar_row w g t ty cs fr d hg hu hd hi, Result.andThen]
def repD (n e : Int) (p : Int × Int) : RepL := ⟨n, e, p.1, p.2, [], ⟨#[]⟩, []⟩
set_option maxRecDepth 100000 in
theorem k_reply (r : RowD) (e : Int) (p : Int × Int) (w : World) :
    Calls Tryz.prog 72 #[reqW r, .int .i64 e, .agg #[.int .i64 p.1, .int .i64 p.2]] w fun x w' => x = .returned (repW (repD r.n e p) (.slice none 0 0) (.slice none 0 0)) ∧ Kp No w w' := by
  unfold reqW repW repD
  obtain ⟨y, hy⟩ : ∃ v, w.heap.size = v := ⟨_, rfl⟩
  obtain ⟨wa, hwa⟩ : ∃ v, w.alloc (.cells #[.int .i64 r.n, .int .i64 r.ask.kind, .int .i64 r.ask.client, .int .i64 r.ask.seq, .string r.ask.name, .string r.ask.data, .int .i64 r.ask.mode, .int .i64 r.ask.lag] 116) = v := ⟨_, rfl⟩
  have hka : Kp No w wa := by rw [← hwa]; exact (Kp.refl _ _).alloc _
  have hba : Blk wa y 116 [.int .i64 r.n, .int .i64 r.ask.kind, .int .i64 r.ask.client, .int .i64 r.ask.seq, .string r.ask.name, .string r.ask.data, .int .i64 r.ask.mode, .int .i64 r.ask.lag] := by rw [← hwa, ← hy]; exact Blk.new w _ _
  obtain ⟨z, hz⟩ : ∃ v, wa.heap.size = v := ⟨_, rfl⟩
  obtain ⟨wb, hwb⟩ : ∃ v, wa.alloc (.cells #[.int .i64 p.1, .int .i64 p.2] 42) = v := ⟨_, rfl⟩
  have hkb : Kp No wa wb := by rw [← hwb]; exact (Kp.refl _ _).alloc _
  have hbb : Blk wb z 42 [.int .i64 p.1, .int .i64 p.2] := by rw [← hwb, ← hz]; exact Blk.new wa _ _
  have hby := hba.kept hkb (fun x => x)
  have y0 : wb.cell? ⟨y, 0, none⟩ = some _ := Blk.cell hby rfl
  have z0 : wb.cell? ⟨z, 0, none⟩ = some _ := Blk.cell hbb rfl
  have z1 : wb.cell? ⟨z, 1, none⟩ = some _ := Blk.cell hbb rfl
  have hylt : y < wb.heap.size := Blk.lt hby
  have hzlt : z < wb.heap.size := Blk.lt hbb
  have HK := Lib.hid (hka.trans' hkb)
  clear hka hba hkb hbb hby
  go_enter Tryz.func72, Tryz.ntmps72
  go_upto_region 1 with fail
  try rw [hwa]
  try rw [hy]
  try rw [hwb]
  try rw [hz]
  clear hwa hy hwb hz
  go_wp2_with fail
  have hb : Blk (wb.alloc (.cells #[.int .i64 r.n, .int .i64 e, .int .i64 p.1, .int .i64 p.2, .slice none 0 0, .string ⟨#[]⟩, .slice none 0 0] 75)) wb.heap.size 75 [.int .i64 r.n, .int .i64 e, .int .i64 p.1, .int .i64 p.2, .slice none 0 0, .string ⟨#[]⟩, .slice none 0 0] := Blk.new wb _ _
  exact bodyPost_ret (results_cell_row rfl _ _ wb.heap.size _ _ _ _ rfl hb Tryz.underlying75 rfl (by kernel_rfl)) rfl ⟨rfl, HK.out.alloc _⟩
/-- a request is let in, or not -/
def addD (n : Int) (a : AskL) (index term : Int) (L : List RowD) : Int × List RowD :=
  if 8 ≤ L.length then (221, L) else (0, L ++ [⟨n, a, 0, index, term, 0, 0, 0, []⟩])
set_option maxRecDepth 100000 in
set_option maxHeartbeats 8000000 in
theorem k_add (n : Int) (a : AskL) (index term : Int) (hn : I64 n) (han : a.nums) (hix : I64 index) (htm : I64 term) (d : Nat) (L : List RowD) (F : Nat → Prop) (w : World) (hD : DkAt w d L F) :
    Calls Tryz.prog 19 #[.pointer (some ⟨d, 0, none⟩), .int .i64 n, askW a, .int .i64 index, .int .i64 term] w fun e w' => e = .returned (.int .i64 (addD n a index term L).1) ∧ ∃ F', DkAt w' d (addD n a index term L).2 F' ∧ Upd F w w' F' := by
  obtain ⟨y, hy⟩ : ∃ v, w.heap.size = v := ⟨_, rfl⟩
  obtain ⟨wa, hwa⟩ : ∃ v, w.alloc (.cells #[.int .i64 a.kind, .int .i64 a.client, .int .i64 a.seq, .string a.name, .string a.data, .int .i64 a.mode, .int .i64 a.lag] 50) = v := ⟨_, rfl⟩
  have hka : Kp No w wa := by rw [← hwa]; exact (Kp.refl _ _).alloc _
  have hba : Blk wa y 50 [.int .i64 a.kind, .int .i64 a.client, .int .i64 a.seq, .string a.name, .string a.data, .int .i64 a.mode, .int .i64 a.lag] := by rw [← hwa, ← hy]; exact Blk.new w _ _
  obtain ⟨rv, S, hin, hft⟩ := hD.keptNo hka
  have HMW : Hid (∀ k, F k → k < w.heap.size) := Lib.hid (fun k hk => hD.lt hk)
  obtain ⟨Av, cv, rfl⟩ := hin.row.shape
  have k0 : wa.cell? ⟨d, 0, none⟩ = some _ := Blk.cell hin.blk rfl
  have HKA := Lib.hid hka
  have HFT := Lib.hid hft
  by_cases h8 : 8 ≤ L.length
  case pos =>
    have h8i : (8 : Int) ≤ (L.length : Int) := by omega
    have HOUT : Hid (addD n a index term L = (221, L)) := Lib.hid (by unfold addD; rw [if_pos h8])
    have HIN := Lib.hid hin
    unfold askW
    clear hka hba hin hft hD h8
    go_enter Tryz.func19, Tryz.ntmps19
    go_wp2_with fail
    go_ret
    exact ⟨by rw [HOUT.out]; rfl, F, by rw [HOUT.out]; exact ⟨_, S, HIN.out, HFT.out⟩, HKA.out.any, fun k hk => .inl hk⟩
  case neg =>
  have h8i : ¬ (8 : Int) ≤ (L.length : Int) := by omega
  have HLL : Hid (L.length < 8) := Lib.hid (by omega)
  obtain ⟨r, hr⟩ : ∃ r : RowD, r = ⟨n, a, 0, index, term, 0, 0, 0, []⟩ := ⟨_, rfl⟩
  have HOUT : Hid (addD n a index term L = (0, L ++ [r])) := Lib.hid (by unfold addD; rw [if_neg h8, hr])
  obtain ⟨wd, hwd⟩ : ∃ v, wa.drew = v := ⟨_, rfl⟩
  have hkd : Kp No wa wd := by rw [← hwd]; exact (Kp.refl _ _).drew
  have hbd := hba.kept hkd (fun z => z)
  have hind := hin.keptNo hkd
  obtain ⟨g1, hg1⟩ : ∃ v, wd.heap.size = v := ⟨_, rfl⟩
  obtain ⟨w3, hw3⟩ : ∃ v, wd.alloc (.cells #[.int .i64 n, .int .i64 a.kind, .int .i64 a.client, .int .i64 a.seq, .string a.name, .string a.data, .int .i64 a.mode, .int .i64 a.lag, .int .i64 0, .int .i64 index, .int .i64 term, .int .i64 0, .int .i64 0, .int .i64 0, .slice none 0 0] 118) = v := ⟨_, rfl⟩
  have hk3 : Kp No wd w3 := by rw [← hw3]; exact (Kp.refl _ _).alloc _
  have hin3 : DkIn w3 d (.slice Av L.length cv) S L := hind.keptNo hk3
  have hsrc := rowd_lit wd r (.slice none 0 0) (fun k => k = g1) hg1 (by rw [hr]; exact ⟨hn, han, rfl, hix, htm, rfl, rfl, rfl⟩) (by rw [hr]; exact Rp.none_ _ _ _)
  have hcs : ((r.cells (.slice none 0 0)).toArray) = #[.int .i64 n, .int .i64 a.kind, .int .i64 a.client, .int .i64 a.seq, .string a.name, .string a.data, .int .i64 a.mode, .int .i64 a.lag, .int .i64 0, .int .i64 index, .int .i64 term, .int .i64 0, .int .i64 0, .int .i64 0, .slice none 0 0] := by rw [hr]; rfl
  rw [hcs, hg1, hw3] at hsrc
  have hgl : ∀ k, DkFoot d (.slice Av L.length cv) S k → k < g1 := fun k hk => by rw [← hg1]; exact hind.lt hk
  have HG1 : Hid (¬ g1 < w.heap.size) := Lib.hid (by have := (HKA.out.trans' hkd).size; omega)
  have HIN3 := Lib.hid hin3
  have HSRC := Lib.hid hsrc
  have HGL := Lib.hid hgl
  have HK3 := Lib.hid ((HKA.out.trans' hkd).trans' hk3)
  have k1 : wd.cell? ⟨d, 0, none⟩ = some _ := Blk.cell hind.blk rfl
  have x0 : wd.cell? ⟨y, 0, none⟩ = some _ := Blk.cell hbd rfl
  have x1 : wd.cell? ⟨y, 1, none⟩ = some _ := Blk.cell hbd rfl
  have x2 : wd.cell? ⟨y, 2, none⟩ = some _ := Blk.cell hbd rfl
  have x3 : wd.cell? ⟨y, 3, none⟩ = some _ := Blk.cell hbd rfl
  have x4 : wd.cell? ⟨y, 4, none⟩ = some _ := Blk.cell hbd rfl
  have x5 : wd.cell? ⟨y, 5, none⟩ = some _ := Blk.cell hbd rfl
  have x6 : wd.cell? ⟨y, 6, none⟩ = some _ := Blk.cell hbd rfl
  unfold askW
  clear hka hba hkd hbd hk3 hin3 hsrc hgl hin hind hft hD h8 hcs hr
  go_enter Tryz.func19, Tryz.ntmps19
  go_upto_region 5 with fail
  try rw [hwa]
  try rw [hy]
  clear hwa hy k0
  refine Reg.wp_region_plan [⟨0, false, []⟩, ⟨1, false, []⟩, ⟨2, false, []⟩, ⟨3, false, []⟩, ⟨4, false, []⟩, ⟨5, false, []⟩, ⟨6, false, []⟩, ⟨7, false, []⟩, ⟨8, false, []⟩, ⟨9, false, []⟩, ⟨10, false, []⟩, ⟨11, true, [2, 3, 4]⟩, ⟨12, true, []⟩, ⟨13, false, []⟩, ⟨14, false, []⟩, ⟨15, true, []⟩] rfl (by kernel_rfl) ?_
  rw [hwd]
  clear hwd
  repeat (first | (refine Reg.look rfl rfl rfl (by go_simp; rfl) rfl ?_; go_simp) | (refine Reg.skip rfl rfl rfl ?_; go_simp))
  refine Reg.act rfl ?_
  go_wp2_with fail
  clear k1 x0 x1 x2 x3 x4 x5 x6 hg1 hw3
  have k1 : w3.cell? ⟨d, 0, none⟩ = some _ := Blk.cell HIN3.out.blk rfl
  (refine ⟨?anew, ?_⟩; case anew => ((repeat (refine Reg.anew_cons rfl rfl (fun _ => by go_simp) ?_)); exact Reg.anew_nil))
  repeat (first | (refine Reg.look rfl rfl rfl (by go_simp; rfl) rfl ?_; go_simp) | (refine Reg.skip rfl rfl rfl ?_; go_simp))
  refine Reg.act rfl ?_
  refine wpList_append_rp (E := Rp.rowd) rfl _ (.tmp 25) (.tmp 32) 112 rfl 0 118 152 el_rowd (fun k => S k ∨ k = g1) (.slice Av L.length cv) L rfl (HIN3.out.row.mono (Nat.le_refl _) (fun _ h => .inl h)) (some ⟨g1, 0, none⟩) 1 (fun k => k = g1) [r] rfl HSRC.out Rp.rowd_one ?hcap ?hby (Nat.zero_le _) (fun _ h => .inr h) ?hsv ?_
  case hcap => have := HLL.out; simp [maxLen]; omega
  case hby => have := HLL.out; simp; omega
  case hsv =>
    intro k hk e
    rcases e with e | e
    · exact HIN3.out.sr k e hk
    · have := HGL.out k (.inr (.inl hk)); omega
  intro rv2 w4 hown hgr hbl
  have hk4 : Kp (fun k => (Value.slice Av L.length cv).ownBlock = some k) w3 w4 := (Kp.refl _ _).grown hgr (fun g hg _ => hg)
  have hin := HIN3.out
  have hbm := hin.blk.kept hk4 hin.rd
  have k1' : w4.cell? ⟨d, 0, none⟩ = some _ := Blk.cell hbm rfl
  have f1 := Blk.fr hbm 0
  have hk5 : Kp (· = d) w4 (w4.setCell ⟨d, 0, none⟩ rv2) := (Kp.refl (· = d) w4).setCell (p := ⟨d, 0, none⟩) (fun _ => rfl) _
  have hob : ∀ k, rv2.ownBlock = some k → (Value.slice Av L.length cv).ownBlock = some k ∨ k = w3.heap.size := fun k hk => by
    rcases hbl with h | h
    · exact .inl (h ▸ hk)
    · rw [h] at hk; injection hk with hk; exact .inr hk.symm
  have hg13 : g1 < w3.heap.size := by
    have h := HSRC.out
    obtain ⟨_, _, he, _, _, h2⟩ := h
    obtain ⟨ad, h3, _, h4⟩ := h2 (by simp)
    simp only [List.cons.injEq, Value.slice.injEq, and_true] at he
    rw [← he.1] at h3
    injection h3 with h3
    obtain ⟨es, h5, hv, h6, _⟩ := h4 0 r rfl
    have h7 := h5 0 (.int .i64 r.n) (by rw [h6]; rfl)
    have := lt_of_cell h7
    rw [← h3] at this
    simpa [Addr.add_lit] using this
  have hdg : d ≠ g1 := by have := HGL.out d (.inl rfl); omega
  have hdw : d < w3.heap.size := Blk.lt hin.blk
  have HFIN : Hid (DkIn (w4.setCell ⟨d, 0, none⟩ rv2) d rv2 (fun k => S k ∨ k = g1) (L ++ [r])) := Lib.hid
    ⟨Blk.set hbm 0 rv2, hown.kept hk5 (fun k hs _ e => by rcases hs with hs | hs; exact hin.sd (e ▸ hs); omega) (fun k hv e => by
        rcases hob k hv with h | h
        · exact hin.rd (e ▸ h)
        · omega), fun h => (hob d h).elim hin.rd (fun e => by omega), fun h => by rcases h with h | h; exact hin.sd h; exact hdg h, fun k hs h => by
        rcases hob k h with h2 | h2
        · rcases hs with hs | hs
          · exact hin.sr k hs h2
          · have := HGL.out k (.inr (.inl h2)); omega
        · rcases hs with hs | hs
          · have := hin.hi k hs; omega
          · omega, fun k hs => by
        have h1 := hk4.size
        have h2 := hk5.size
        rcases hs with hs | hs
        · have := hin.hi k hs; omega
        · omega⟩
  have HUP : Hid (Upd F w (w4.setCell ⟨d, 0, none⟩ rv2) (DkFoot d rv2 (fun k => S k ∨ k = g1))) := Lib.hid ⟨(HK3.out.any.trans hk4 (fun k _ h => (HFT.out k).2 (.inr (.inl h)))).trans hk5 (fun k _ h => (HFT.out k).2 (.inl h)), fun k hk => by
    have hs3 := HK3.out.size
    rcases hk with h | h | h
    · exact .inl ((HFT.out k).2 (.inl h))
    · rcases hob k h with h | h
      · exact .inl ((HFT.out k).2 (.inr (.inl h)))
      · exact .inr (by omega)
    · rcases h with h | h
      · exact .inl ((HFT.out k).2 (.inr (.inr h)))
      · refine .inr ?_
        rcases Nat.lt_or_ge k w.heap.size with hlt | hge
        · exfalso; exact HG1.out (by omega)
        · exact hge⟩
  obtain ⟨A2, c2, hsh⟩ := hown.shape
  obtain ⟨n2, hn2⟩ : ∃ v, (L ++ [r]).length = v := ⟨_, rfl⟩
  rw [hn2] at hsh
  clear hown hgr hbl hk4 hin hbm hk5 hob hdg hdw hg13 k1 hn2
  subst hsh
  go_wp2_with fail
  (refine ⟨?anew, ?_⟩; case anew => ((repeat (refine Reg.anew_cons rfl rfl (fun _ => by go_simp) ?_)); exact Reg.anew_nil))
  repeat (first | (refine Reg.look rfl rfl rfl (by go_simp; rfl) rfl ?_; go_simp) | (refine Reg.skip rfl rfl rfl ?_; go_simp))
  refine Reg.act rfl ?_
  go_wp2_with fail
  (refine ⟨?anew, ?_⟩; case anew => ((repeat (refine Reg.anew_cons rfl rfl (fun _ => by go_simp) ?_)); exact Reg.anew_nil))
  repeat (first | (refine Reg.look rfl rfl rfl (by go_simp; rfl) rfl ?_; go_simp) | (refine Reg.skip rfl rfl rfl ?_; go_simp))
  (refine Reg.done ?_; simp only [Exit.then])
  go_wp2_with fail
  go_ret
  exact ⟨by rw [HOUT.out]; rfl, _, by rw [HOUT.out]; exact ⟨_, _, HFIN.out, fun k => Iff.rfl⟩, HUP.out⟩
end Go.Proofs.YtamfgmlhopjppaaGreat
