/-
  disk.Copy.
-/
import Derived.Test.YtflodiljgphkdaaDisk10
import Derived.Test.YtflodiljgphkdaaRange
namespace Go.Proofs.Ytflodiljgphkdaa
open Go.RowKit Go.ChangeShapes Go.WideShapes Go.ChangeAt

set_option maxRecDepth 100000 in
theorem c_clone_nil (w : World) : Calls Try.prog 73 #[.slice none 0 0] w fun e w' => e = .returned (.slice none 0 0) ∧ w' = w := by
  have he : (binOp .eql 27 (.slice none 0 0) (.slice none 0 0)).run Try.prog w = .ok (.bool true) w := run_eql_nil_slice w _ 5 none 0 0 0 0 Try.underlying27
  go_enter Try.func73, Try.ntmps73
  go_wp2_with fail
  go_ret
  exact ⟨rfl, rfl⟩
set_option maxRecDepth 100000 in
theorem c_clone_some (a : Addr) (c : Nat) (l : List UInt8) (w : World) (h : Buf w 5 (.slice (some a) l.length c) l) (hl : l.length ≤ 140737488355328) :
    Calls Try.prog 73 #[.slice (some a) l.length c] w fun e w' => ∃ v', e = .returned v' ∧ Buf w' 5 v' l ∧ Kp No w w' ∧ ∀ k, vblk v' = some k → w.heap.size ≤ k := by
  have HB : Hid (Buf (w.alloc (.cells #[] 5)) 5 (.slice (some a) l.length c) l) := Lib.hid (h.keptNo ((Kp.refl _ _).alloc _))
  clear h
  have he : (binOp .eql 27 (.slice (some a) l.length c) (.slice none 0 0)).run Try.prog w = .ok (.bool false) w := by
    simp only [binOp]
    simp [Op.equal, Op.maxDepth, Lib.run_equalIn_slice_nil w 9999 27 5 (some a) l.length c 0 0 Try.underlying27]
  go_enter Try.func73, Try.ntmps73
  go_wp2_with (at_builtin; refine wpList_buf_copy rfl _ (.tmp 5) (.tmp 6) 27 9 rfl 5 bytely (some a) (some ⟨w.heap.size, 0, none⟩) c l rfl rfl HB.out (by simp) hl ?_; intro v1 w1 hb1 hk1 hn1; have HB1 := Lib.hid hb1; have HK1 := Lib.hid hk1; have HN1 := Lib.hid hn1; clear hb1 hk1 hn1)
  go_ret
  refine ⟨v1, rfl, HB1.out, ((Kp.refl No w).alloc _).trans' HK1.out, fun k hk => ?_⟩
  have := HN1.out k hk
  simp at this
  omega
theorem c_clone (v : Value) (l : List UInt8) (w : World) (h : Buf w 5 v l) (hl : l.length ≤ 140737488355328) :
    Calls Try.prog 73 #[v] w fun e w' => ∃ v', e = .returned v' ∧ Buf w' 5 v' l ∧ Kp No w w' ∧ ∀ k, vblk v' = some k → w.heap.size ≤ k := by
  obtain ⟨A, c, rfl, hlc, _⟩ := h.shape
  cases A with
  | some a => exact c_clone_some a c l w h hl
  | none =>
    have : l = [] ∧ c = 0 := by
      rcases h with ⟨rfl, A, he⟩ | ⟨g, cap, cur, he, _⟩
      · injection he with _ _ he; exact ⟨rfl, he⟩
      · injection he with he; cases he
    obtain ⟨rfl, rfl⟩ := this
    refine (c_clone_nil w).mono ?_
    rintro e w' ⟨rfl, rfl⟩
    exact ⟨_, rfl, Buf.nil _ _, Kp.refl _ _, fun k hk => by cases hk⟩

theorem rising_ext {ν : Type} : ∀ {l m : List (ByteArray × ν)}, Rising l → Rising m → (∀ n, mget n l = mget n m) → l = m
  | [], [], _, _, _ => rfl
  | [], (k, y) :: m, _, _, h => by have := h k; simp [mget] at this
  | (k, y) :: l, [], _, _, h => by have := h k; simp [mget] at this
  | (k, y) :: l, (k', y') :: m, hl, hm, h => by
    have hl' := hl
    have hm' := hm
    unfold Rising at hl hm
    rw [List.pairwise_cons] at hl hm
    have hkk : k = k' := by
      refine Classical.byContradiction fun hne => ?_
      have h1 := h k
      have h2 := h k'
      simp only [mget, if_true, if_neg hne, if_neg (Ne.symm hne)] at h1 h2
      have h3 := hm.1 _ (mem_of_mget h1.symm)
      have h4 := hl.1 _ (mem_of_mget h2)
      exact nlt_asymm h3 h4
    subst hkk
    have h1 := h k
    simp only [mget, if_true, Option.some.injEq] at h1
    subst h1
    congr 1
    refine rising_ext hl.2 hm.2 fun n => ?_
    by_cases hn : n = k
    · subst hn
      have e1 : mget n l = none := (mget_none_iff _ _).2 fun hc => by obtain ⟨p, hp, e⟩ := List.mem_map.1 hc; exact nlt_irrefl n (e ▸ hl.1 p hp)
      have e2 : mget n m = none := (mget_none_iff _ _).2 fun hc => by obtain ⟨p, hp, e⟩ := List.mem_map.1 hc; exact nlt_irrefl n (e ▸ hm.1 p hp)
      rw [e1, e2]
    · have := h n
      simpa only [mget, if_neg hn] using this

open Classical in
/-- The loop so far: what is no longer to come has been copied. -/
def CpRel (w : World) (m r c cm : Nat) (l : List (ByteArray × Value)) (x : DV) (todo : List (ByteArray × Value)) (wr : World) : Prop :=
  Ranges wr m r Value.string l todo ∧ (∀ p ∈ todo, p ∈ l) ∧ (todo.map (·.1)).Nodup ∧ Kp No w wr ∧ ∃ lc Lc part, DiskIn wr c cm lc Lc { x with files := part } ∧ (∀ n, mget n part = if n ∈ todo.map (fun p : ByteArray × Value => p.1) then none else mget n x.files) ∧ ∀ k, DF c cm Lc { x with files := part } k → w.heap.size ≤ k

set_option maxRecDepth 100000 in
set_option maxHeartbeats 1000000 in
theorem d_copy (d : Nat) (x : DV) (F : Nat → Prop) (w : World) (h : DiskAt w d x F) :
    Calls Try.prog 30 #[.pointer (some ⟨d, 0, none⟩)] w fun e w' => ∃ d' F', e = .returned (.pointer (some ⟨d', 0, none⟩)) ∧ DiskAt w' d' x F' ∧ Kp No w w' ∧ ∀ k, F' k → w.heap.size ≤ k := by
  obtain ⟨m, l, L, h, hF⟩ := h
  have H := Lib.hid h
  have d0 : w.cell? ⟨d, 0, none⟩ = some _ := Blk.cell h.blk rfl
  have d1 : w.cell? ⟨d, 1, none⟩ = some _ := Blk.cell h.blk rfl
  have d2 : w.cell? ⟨d, 2, none⟩ = some _ := Blk.cell h.blk rfl
  have d3 : w.cell? ⟨d, 3, none⟩ = some _ := Blk.cell h.blk rfl
  have hmm := @run_makeMap Try.prog
  obtain ⟨w1, hw1⟩ : ∃ w1, (w.alloc (.cells #[.map (some (w.heap.size + 1)), .int .i64 x.fuse, .bool x.off, .int .i64 x.steps] 85)).alloc (.map #[] 0) = w1 := ⟨_, rfl⟩
  have hk1 : Kp No w w1 := by rw [← hw1]; exact ((Kp.refl _ _).alloc _).alloc _
  have hs1 : w1.heap.size = w.heap.size + 2 := by rw [← hw1]; simp
  have h1 := h.kept hk1 (fun _ _ x => x)
  have e0 : w1.cell? ⟨d, 0, none⟩ = some _ := Blk.cell h1.blk rfl
  have hnew : DiskIn w1 w.heap.size (w.heap.size + 1) [] L { x with files := [] } := by
    have hb : Blk w1 w.heap.size 85 [.map (some (w.heap.size + 1)), .int .i64 x.fuse, .bool x.off, .int .i64 x.steps] := by rw [← hw1]; exact (Blk.new w [.map (some (w.heap.size + 1)), .int .i64 x.fuse, .bool x.off, .int .i64 x.steps] _).kept (S := No) ((Kp.refl _ _).alloc (.map #[] 0)) (fun x => x)
    have hm := MapOf.made (enc := Value.string) (w.alloc (.cells #[.map (some (w.heap.size + 1)), .int .i64 x.fuse, .bool x.off, .int .i64 x.steps] 85))
    have es : (w.alloc (.cells #[.map (some (w.heap.size + 1)), .int .i64 x.fuse, .bool x.off, .int .i64 x.steps] 85)).heap.size = w.heap.size + 1 := by simp
    rw [es, hw1] at hm
    exact ⟨hb, hm, fun n => rfl, (by intro n f hf; cases hf), (by intro n n' f f' hf; cases hf), h.ok.with List.Pairwise.nil (by intro p hp; cases hp)⟩
  obtain ⟨w2, hrun, hrg, hk2, hs2⟩ := h1.map.range (P := Try.prog) Try.underlying83
  have hnd : (l.map (·.1)).Nodup := by obtain ⟨_, _, _, _, hnd, _⟩ := h.map; exact hnd
  have HREL : Hid (CpRel w m w1.heap.size w.heap.size (w.heap.size + 1) l x l w2) := Lib.hid ⟨hrg, fun _ h => h, hnd, hk1.trans' hk2, [], L, [], hnew.kept hk2 (fun _ _ x => x), fun n => by
      by_cases hn : n ∈ l.map (fun p : ByteArray × Value => p.1)
      · rw [if_pos hn]; rfl
      · rw [if_neg hn, (h.names n).1 ((mget_none_iff n l).2 hn)]; rfl, by
      rintro k (rfl | rfl | ⟨n, f, hf, _⟩)
      · exact Nat.le_refl _
      · exact Nat.le_succ _
      · cases hf⟩
  obtain ⟨r, hr⟩ : ∃ r, w1.heap.size = r := ⟨_, rfl⟩
  rw [hr] at hrun HREL
  clear h hF h1 hnew hrg hnd hs2
  go_enter Try.func30, Try.ntmps30
  go_wp2_with fail
  have hlast : ∀ wr todo, CpRel w m r w.heap.size (w.heap.size + 1) l x todo wr → wr.rangeLeft m r = todo.length := fun wr todo h => h.1.left
  have HLAST := Lib.hid hlast
  clear hlast hrun e0 hw1 d0 d1 d2 d3
  go_loopw [4] (fun _ wr => ∃ todo, CpRel w m r w.heap.size (w.heap.size + 1) l x todo wr) (fun _ wr => wr.rangeLeft m r)
  case atStart => exact ⟨l, HREL.out⟩
  case round =>
    obtain ⟨todo, hrel⟩ := hrel
    have HR := Lib.hid hrel
    have hrg := hrel.1
    clear hrel HREL
    rcases hrg.next (P := Try.prog) 0 with ⟨h0, hrun⟩ | ⟨n, v, t1, t2, w3, htd, hrun, hrg3, hk3, hs3, hen⟩
    · clear hrg
      go_wp2_with fail
      go_ret
      obtain ⟨_, _, _, hkp, lc, Lc, part, hd, hp, hft⟩ := HR.out
      subst h0
      have hpx : part = x.files := rising_ext hd.ok.rising H.out.ok.rising fun n => by rw [hp n, if_neg (by simp)]
      subst hpx
      exact ⟨w.heap.size, _, rfl, ⟨_, _, _, hd, fun k => Iff.rfl⟩, hkp, hft⟩
    · obtain ⟨_, hsub, hndt, hkp, lc, Lc, part, hd, hp, hft⟩ := HR.out
      have hvl : mget n l = some v := mget_of_mem (by obtain ⟨_, _, _, _, hnd, _⟩ := H.out.map; exact hnd) (hsub _ (by rw [htd]; simp))
      have hent := H.out.ents n
      rw [hvl] at hent
      cases hf : mget n x.files with
      | none => rw [hf] at hent; cases hent
      | some f =>
        rw [hf] at hent
        simp only [Option.map_some, Option.some.injEq] at hent
        subst hent
        have hrs : w.heap.size ≤ r := by omega
        have hk03 : Kp No w w3 := hkp.trans hk3 (fun i hi e => by omega)
        have hfi := (H.out.file n f hf).kept hk03 (fun _ _ x => x)
        have hd3 : DiskIn w3 w.heap.size (w.heap.size + 1) lc Lc { x with files := part } := hd.kept hk3 (fun k hk e => by
          have h1 := hrg.lt
          subst e
          obtain ⟨es, clock, since, seen, c0, _, _, _, _, _, h6, _⟩ := hrg
          rcases hk with rfl | rfl | ⟨n', f', hf', hk⟩
          · omega
          · omega
          · rcases hk with hk | hk
            · have hb := (hd.file n' f' hf').1
              rw [← hk] at hb
              have hb' : wr.heap[k]? = some (.cells #[_, _, _] _ (0, 0)) := hb
              rw [h6] at hb'; cases hb'
            · obtain ⟨cs, hb'⟩ := (hd.file n' f' hf').2.block hk
              rw [h6] at hb'; cases hb')
        obtain ⟨b, hb⟩ : ∃ b, (L n).1 = b := ⟨_, rfl⟩
        obtain ⟨A, c, hV, hlc, hcm⟩ := hfi.2.shape
        rw [hb, hV] at hfi
        rw [hb] at hrun hen
        have hcl := c_clone (.slice A f.bytes.length c) f.bytes w3.drew (hfi.2.keptNo ((Kp.refl _ _).drew)) (by have := (H.out.ok.at (n := n) hf).1.2; omega)
        have p0 : w3.cell? ⟨b, 0, none⟩ = some _ := hfi.1.cell rfl
        have p1 : w3.cell? ⟨b, 1, none⟩ = some _ := hfi.1.cell rfl
        have p2 : w3.cell? ⟨b, 2, none⟩ = some _ := hfi.1.cell rfl
        have q0 : w3.cell? ⟨w.heap.size, 0, none⟩ = some _ := Blk.cell hd3.blk rfl
        have HFI := Lib.hid hfi
        have HD3 := Lib.hid hd3
        have HK3 := Lib.hid hk03
        have HP := Lib.hid hp
        have HFT := Lib.hid hft
        have HRG3 := Lib.hid hrg3
        have HTD := Lib.hid htd
        have HF0 := Lib.hid hf
        have HS3 := Lib.hid hs3
        have HSUB := Lib.hid hsub
        have HND := Lib.hid hndt
        have HLT := Lib.hid hrg.left
        clear hrg hsub hndt hkp hd hp hft hvl hk3 hs3 hrg3 htd hfi hd3 hk03 hf hV hb
        go_wp2_with fail
        refine Reg.wp_region_plan [⟨0, false, []⟩, ⟨1, false, []⟩, ⟨2, false, []⟩, ⟨3, false, []⟩, ⟨4, false, []⟩, ⟨5, false, []⟩, ⟨6, false, []⟩, ⟨7, false, []⟩, ⟨9, false, []⟩, ⟨10, false, []⟩, ⟨11, false, []⟩, ⟨12, false, []⟩, ⟨13, false, []⟩, ⟨15, false, []⟩, ⟨16, false, []⟩, ⟨17, false, []⟩, ⟨18, false, []⟩, ⟨8, true, [0, 1, 10, 11, 12, 13, 16, 17, 18]⟩, ⟨14, false, []⟩, ⟨19, false, []⟩, ⟨20, true, [0, 1]⟩, ⟨21, true, []⟩] rfl (by kernel_rfl) ?_
        repeat (first | (refine Reg.look rfl rfl rfl (by go_simp; rfl) rfl ?_; go_simp) | (refine Reg.skip rfl rfl rfl ?_; go_simp))
        refine Reg.act rfl ?_
        go_wp2_with fail
        refine hcl.mono ?_
        rintro e w4 ⟨v', rfl, hb4, hk4, hn4⟩
        obtain ⟨A4, c4, rfl, _⟩ := hb4.shape
        have hk4 : Kp No w3 w4 := ((Kp.refl No w3).drew).trans' hk4
        have p0 : w4.cell? ⟨b, 0, none⟩ = some _ := (HFI.out.kept hk4 (fun _ _ x => x)).1.cell rfl
        have p1 : w4.cell? ⟨b, 1, none⟩ = some _ := (HFI.out.kept hk4 (fun _ _ x => x)).1.cell rfl
        have p2 : w4.cell? ⟨b, 2, none⟩ = some _ := (HFI.out.kept hk4 (fun _ _ x => x)).1.cell rfl
        have q0 : w4.cell? ⟨w.heap.size, 0, none⟩ = some _ := Blk.cell (HD3.out.kept hk4 (fun _ _ x => x)).blk rfl
        have HB4 := Lib.hid hb4
        have HK4 := Lib.hid hk4
        have HN4 := Lib.hid hn4
        clear hb4 hk4 hn4 hcl hen hrun
        go_wp2_with fail
        (refine ⟨?anew, ?_⟩; case anew => ((repeat (refine Reg.anew_cons rfl rfl (fun _ => by go_simp) ?_)); exact Reg.anew_nil))
        repeat (first | (refine Reg.look rfl rfl rfl (by go_simp; rfl) rfl ?_; go_simp) | (refine Reg.skip rfl rfl rfl ?_; go_simp))
        obtain ⟨w5, hw5⟩ : ∃ w5, w4.alloc (.cells #[.slice A4 f.bytes.length c4, .int .i64 (f.sure : Int), .bool f.old] 92) = w5 := ⟨_, rfl⟩
        have hk5 : Kp No w4 w5 := by rw [← hw5]; exact (Kp.refl _ _).alloc _
        have hb5 : Blk w5 w4.heap.size 92 [.slice A4 f.bytes.length c4, .int .i64 (f.sure : Int), .bool f.old] := by rw [← hw5]; exact Blk.new w4 [_, _, _] _
        have HFN : Hid (FileIn w5 w4.heap.size (.slice A4 f.bytes.length c4) f) := Lib.hid ⟨hb5, HB4.out.keptNo hk5⟩
        have HD5 := Lib.hid ((HD3.out.kept HK4.out (fun _ _ x => x)).kept hk5 (fun _ _ x => x))
        have q5 : w5.cell? ⟨w.heap.size, 0, none⟩ = some _ := Blk.cell HD5.out.blk rfl
        obtain ⟨w6, hrun, hm6, hk6⟩ := HD5.out.map.update (P := Try.prog) key_dsk Try.underlying83 n (.pointer (some ⟨w4.heap.size, 0, none⟩))
        have HM6 := Lib.hid hm6
        have HK6 := Lib.hid hk6
        have HK5 := Lib.hid hk5
        clear hm6 hk6 hk5 hb5
        refine Reg.act rfl ?_
        go_wp2_with fail
        (refine ⟨?anew, ?_⟩; case anew => ((repeat (refine Reg.anew_cons rfl rfl (fun _ => by go_simp) ?_)); exact Reg.anew_nil))
        refine Reg.act rfl ?_
        go_wp2_with fail
        try rw [hrun]
        try go_wp2_with fail
        refine ⟨Reg.anew_nil, ?_⟩
        (refine Reg.done ?_; simp only [Exit.then])
        go_wp2_with fail
        have hx : CpRel w m r w.heap.size (w.heap.size + 1) l x (t1 ++ t2) w6 := by
          have hd5 := HD5.out
          have hs4 := HK4.out.size
          have hs5 := HK5.out.size
          have hs3 := HK3.out.size
          have hnd := HND.out
          rw [HTD.out, List.map_append, List.map_cons, List.nodup_append] at hnd
          obtain ⟨nd1, nd2, nd3⟩ := hnd
          rw [List.nodup_cons] at nd2
          have hn1 : n ∉ t1.map (fun p : ByteArray × Value => p.1) := fun h => nd3 n h n (List.mem_cons_self ..) rfl
          have hof := HF0.out
          refine ⟨(HRG3.out.kept HK4.out (fun x => x) (fun x => x)).kept HK5.out (fun x => x) (fun x => x) |>.kept HK6.out (fun e => ?_) (fun e => ?_), fun p hp => HSUB.out p ?_, ?_, ?_, _, _, _, hd5.assign n w4.heap.size (.slice A4 f.bytes.length c4) f (Blk.kept hd5.blk HK6.out hd5.d_ne_m) HM6.out (fun k => mget_put n k _ lc) (fun n' f' _ hf' => (hd5.file n' f' hf').kept HK6.out (fun k hk => (hd5.file n' f' hf').ne_m hd5.map k hk)) (HFN.out.kept HK6.out (fun k hk => HFN.out.ne_m hd5.map k hk)) ?_ (H.out.ok.at (n := n) hof).2 (H.out.ok.at (n := n) hof).1, fun k => ?_, fun k hk => ?_⟩
          · have := H.out.map.lt; omega
          · omega
          · rw [HTD.out]
            rcases List.mem_append.1 hp with h | h
            · exact List.mem_append_left _ h
            · exact List.mem_append_right _ (List.mem_cons_of_mem _ h)
          · rw [List.map_append, List.nodup_append]
            exact ⟨nd1, nd2.2, fun a ha b hb => nd3 a ha b (List.mem_cons_of_mem _ hb)⟩
          · exact ((HK3.out.trans' HK4.out).trans' HK5.out).trans HK6.out (fun i hi e => by omega)
          · rintro n' f' _ hf' k hk (e | e)
            · have := (HD3.out.file n' f' hf').lt k hk; omega
            · have h1 := (HD3.out.file n' f' hf').lt k hk
              have h2 := HN4.out k e
              simp at h2; omega
          · show mget k (ins n f part) = _
            rw [mget_ins, HP.out k]
            by_cases hk : k = n
            · subst hk
              rw [if_pos rfl, if_neg (by rw [List.map_append, List.mem_append]; rintro (h | h); exact hn1 h; exact nd2.1 h), hof]
            · rw [if_neg hk]
              have : k ∈ (todo.map fun p : ByteArray × Value => p.1) ↔ k ∈ ((t1 ++ t2).map fun p : ByteArray × Value => p.1) := by
                rw [HTD.out, List.map_append, List.map_append, List.map_cons, List.mem_append, List.mem_append, List.mem_cons]
                constructor
                · rintro (h | h | h)
                  · exact .inl h
                  · exact absurd h hk
                  · exact .inr h
                · rintro (h | h)
                  · exact .inl h
                  · exact .inr (.inr h)
              by_cases hc : k ∈ (todo.map fun p : ByteArray × Value => p.1)
              · rw [if_pos hc, if_pos (this.1 hc)]
              · rw [if_neg hc, if_neg (fun h => hc (this.2 h))]
          · rcases hd5.assign_foot n _ _ _ k hk with h | h | h
            · exact HFT.out k h
            · omega
            · have h2 := HN4.out k h
              simp at h2; omega
        have HX := Lib.hid hx
        have hln : (t1 ++ t2).length < todo.length := by rw [HTD.out]; simp
        clear hx
        go_roundw
        case rel => exact ⟨t1 ++ t2, HX.out⟩
        case measure => rw [HLT.out, HLAST.out _ _ HX.out]; exact hln
end Go.Proofs.Ytflodiljgphkdaa
