/-
  Put together: Side, OwnC, Sml.
-/
import Derived.Test.YtjlbacfedfkilaaGreatGH
import Derived.Test.YtjlbacfedfkilaaGreatLedQ
import Derived.Test.YtjlbacfedfkilaaGreatGE
import Derived.Test.YtjlbacfedfkilaaGreatGN
import Derived.Test.YtjlbacfedfkilaaGreatLedR
namespace Go.Proofs.YtjlbacfedfkilaaGreat
section
open Go.RowKit Go.ChangeShapes Go.WideShapes Go.ChangeAt
structure Side (w0 w : World) (l : Nat) (L : LV) (bs : List (Nat × TypeId × List Value)) : Prop where
 ex : ∃ F,LAt w l L F ∧ (∀ k,F k → w0.heap.size ≤ k) ∧ ∀ b ∈ bs,¬ F b.1
 blk : ∀ b ∈ bs,Blk w b.1 b.2.1 b.2.2
 new : ∀ b ∈ bs,w0.heap.size ≤ b.1
 nd : (bs.map (·.1)).Nodup
 kp : Kp No w0 w
namespace Side
variable {w0 w w' : World} {l : Nat} {L : LV} {bs pre post : List (Nat × TypeId × List Value)} {x : Nat} {T : TypeId} {cs : List Value}
theorem keptNo (h : Side w0 w l L bs) (hk : Kp No w w') : Side w0 w' l L bs := by
 obtain ⟨F,h1,h2,h3⟩ := h.ex
 exact ⟨⟨F,h1.keptNo hk,h2,h3⟩,fun b hb => (h.blk b hb).kept hk (fun x => x),h.new,h.nd,h.kp.trans' hk⟩
theorem grew (h : Side w0 w l L bs) (hk : Kp No w w') (hb : Blk w' x T cs) (hx : w.heap.size ≤ x) : Side w0 w' l L ((x,T,cs) :: bs) := by
 obtain ⟨F,h1,h2,h3⟩ := h.ex
 refine ⟨⟨F,h1.keptNo hk,h2,fun b hb' => ?_⟩,fun b hb' => ?_,fun b hb' => ?_,?_,h.kp.trans' hk⟩
 · rcases List.mem_cons.1 hb' with rfl | hb'
   · intro hf;have := h1.lt _ hf;simp only at this;omega
   · exact h3 b hb'
 · rcases List.mem_cons.1 hb' with rfl | hb'
   · exact hb
   · exact (h.blk b hb').kept hk (fun x => x)
 · rcases List.mem_cons.1 hb' with rfl | hb'
   · exact Nat.le_trans h.kp.size hx
   · exact h.new b hb'
 · rw [List.map_cons,List.nodup_cons]
   refine ⟨fun hm => ?_,h.nd⟩
   obtain ⟨b,hb',e⟩ := List.mem_map.1 hm
   have := Blk.lt (h.blk b hb')
   simp only at e
   omega
theorem alloc (h : Side w0 w l L bs) (cs : List Value) (T : TypeId) : Side w0 (w.alloc (.cells cs.toArray T)) l L ((w.heap.size,T,cs) :: bs) := by
 obtain ⟨F,h1,h2,h3⟩ := h.ex
 have hk : Kp No w (w.alloc (.cells cs.toArray T)) := (Kp.refl _ _).alloc _
 refine ⟨⟨F,h1.keptNo hk,h2,fun b hb => ?_⟩,fun b hb => ?_,fun b hb => ?_,?_,h.kp.trans' hk⟩
 · rcases List.mem_cons.1 hb with rfl | hb
   · intro hf;have := h1.lt _ hf;simp only at this;omega
   · exact h3 b hb
 · rcases List.mem_cons.1 hb with rfl | hb
   · exact Blk.new w _ _
   · exact (h.blk b hb).kept hk (fun x => x)
 · rcases List.mem_cons.1 hb with rfl | hb
   · exact h.kp.size
   · exact h.new b hb
 · rw [List.map_cons,List.nodup_cons]
   refine ⟨fun hm => ?_,h.nd⟩
   obtain ⟨b,hb,e⟩ := List.mem_map.1 hm
   have := Blk.lt (h.blk b hb)
   simp only at e
   omega
theorem drew (h : Side w0 w l L bs) : Side w0 w.drew l L bs := h.keptNo (Kp.refl _ _).drew
theorem turn (h : Side w0 w l L (pre ++ (x,T,cs) :: post)) {cs' : List Value} (hk : Kp (· = x) w w') (hb : Blk w' x T cs') : Side w0 w' l L (pre ++ (x,T,cs') :: post) := by
 obtain ⟨F,h1,h2,h3⟩ := h.ex
 have hxF : ¬ F x := h3 (x,T,cs) (by simp)
 have hne : ∀ b,b ∈ pre ∨ b ∈ post → b.1 ≠ x := by
  have hn := h.nd
  rw [List.map_append,List.map_cons,List.nodup_append] at hn
  obtain ⟨_,hn2,hn3⟩ := hn
  rw [List.nodup_cons] at hn2
  rintro b (hb | hb) e
  · exact hn3 b.1 (List.mem_map.2 ⟨b,hb,rfl⟩) x List.mem_cons_self e
  · exact hn2.1 (List.mem_map.2 ⟨b,hb,e⟩)
 have hin : ∀ b,b ∈ pre ∨ b ∈ post → b ∈ pre ++ (x,T,cs) :: post := fun b hb => by
  rcases hb with hb | hb
  · exact List.mem_append.2 (.inl hb)
  · exact List.mem_append.2 (.inr (List.mem_cons_of_mem _ hb))
 have hsplit : ∀ b,b ∈ pre ++ (x,T,cs') :: post → b = (x,T,cs') ∨ b ∈ pre ∨ b ∈ post := fun b hb => by
  rcases List.mem_append.1 hb with hb | hb
  · exact .inr (.inl hb)
  · rcases List.mem_cons.1 hb with hb | hb
    · exact .inl hb
    · exact .inr (.inr hb)
 refine ⟨⟨F,h1.kept hk (fun k hk e => hxF (e ▸ hk)),h2,fun b hm => ?_⟩,fun b hm => ?_,fun b hb => ?_,?_,h.kp.trans hk (fun i hi e => ?_)⟩
 · rcases hsplit b hm with rfl | hm
   · exact hxF
   · exact h3 b (hin b hm)
 · rcases hsplit b hm with rfl | hm
   · exact hb
   · exact (h.blk b (hin b hm)).kept hk (hne b hm)
 · rcases hsplit b hb with rfl | hb
   · exact h.new (x,T,cs) (by simp)
   · exact h.new b (hin b hb)
 · have hn := h.nd
   rw [List.map_append,List.map_cons] at hn ⊢
   exact hn
 · have := h.new (x,T,cs) (by simp)
   simp only at this
   omega
theorem set (h : Side w0 w l L (pre ++ (x,T,cs) :: post)) (j : Nat) (v : Value) : Side w0 (w.setCell ⟨x,j,none⟩ v) l L (pre ++ (x,T,cs.set j v) :: post) :=
 h.turn ((Kp.refl (· = x) w).setCell (p := ⟨x,j,none⟩) (fun _ => rfl) _) (Blk.set (h.blk (x,T,cs) (by simp)) j v)
theorem store {a b c : Value} (h : Side w0 w l L (pre ++ (x,44,[a,b,c]) :: post)) (p q r : Value) : Side w0 (((w.setCell ⟨x,0,none⟩ p).setCell ⟨x,1,none⟩ q).setCell ⟨x,2,none⟩ r) l L (pre ++ (x,44,[p,q,r]) :: post) :=
 h.turn (done_stored (h.blk (x,_,[a,b,c]) (by simp)) p q r).1 (done_stored (h.blk (x,_,[a,b,c]) (by simp)) p q r).2
theorem swap {a b : Nat × TypeId × List Value} (h : Side w0 w l L (a :: b :: bs)) : Side w0 w l L (b :: a :: bs) := by
 obtain ⟨F,h1,h2,h3⟩ := h.ex
 have hm : ∀ c,c ∈ b :: a :: bs → c ∈ a :: b :: bs := fun c hc => by
  simp only [List.mem_cons] at hc ⊢
  rcases hc with h | h | h
  · exact .inr (.inl h)
  · exact .inl h
  · exact .inr (.inr h)
 refine ⟨⟨F,h1,h2,fun c hc => h3 c (hm c hc)⟩,fun c hc => h.blk c (hm c hc),fun c hc => h.new c (hm c hc),?_,h.kp⟩
 have hn := h.nd
 simp only [List.map_cons,List.nodup_cons,List.mem_cons,not_or] at hn ⊢
 exact ⟨⟨fun e => hn.1.1 e.symm,hn.2.1⟩,hn.1.2,hn.2.2⟩
theorem apply {B : Nat} (h : Side w0 w l L bs) (hok : OkL B L) (hB : B ≤ 800000) (c : CmdL) (A Bo : Option Addr) (ca cb : Nat) (SA : Nat → Prop) (hsa : ∀ k,SA k → k ∈ bs.map (·.1)) (hh : Rp.str.slice.R w SA [.slice A c.op.hashes.length ca] c.op.hashes)
 (ho : Rp.opl.slice.R w SA [.slice Bo c.ops.length cb] c.ops) (hsz : -9223372036854775808 ≤ c.op.size ∧ c.op.size < 9223372036854775808) (hll : c.op.hashes.length ≤ 1000000) (hol : c.ops.length ≤ 1000000) (hsm : ∀ o ∈ c.ops,o.hashes.length ≤ 1000000) :
 Calls Tryz.prog 12 #[.pointer (some ⟨l,0,none⟩),cmdV c (.slice A c.op.hashes.length ca) (.slice Bo c.ops.length cb)] w fun x w' => x = .returned (doneV (applyL c L).1) ∧ Side w0 w' l (applyL c L).2 bs := by
 obtain ⟨F,h1,h2,h3⟩ := h.ex
 refine (a_apply c A Bo ca cb SA B l L F w h1 hok hB hh ho (fun k hk _ hF => ?_) hsz hll hol hsm).mono ?_
 · obtain ⟨b,hb,rfl⟩ := List.mem_map.1 (hsa k hk)
   exact h3 b hb hF
 rintro x w' ⟨rfl,F',ha,hu⟩
 refine ⟨rfl,⟨F',ha,fun k hk => (hu.foot k hk).elim (h2 k) (fun hle => Nat.le_trans h.kp.size hle),fun b hb hF => ?_⟩,fun b hb => (h.blk b hb).kept hu.kp (h3 b hb),h.new,h.nd,h.kp.trans hu.kp (fun i hi e => ?_)⟩
 · rcases hu.foot b.1 hF with hf | hf
   · exact h3 b hb hf
   · have := Blk.lt (h.blk b hb);omega
 · have := h2 i e;omega
end Side
end
section
open Go.RowKit Go.ChangeShapes Go.WideShapes Go.ChangeAt
def nine (w : World) (x : Nat) (n e k s c q : Int) (nm : ByteArray) (sz : Int) (v : Value) : World :=
 ((((((((w.setCell ⟨x,3,none⟩ (.int .i64 n)).setCell ⟨x,4,none⟩ (.int .i64 e)).setCell ⟨x,5,none⟩ (.int .i64 k)).setCell ⟨x,6,none⟩ (.int .i64 s)).setCell ⟨x,7,none⟩ (.int .i64 c)).setCell ⟨x,8,none⟩ (.int .i64 q)).setCell ⟨x,9,none⟩ (.string nm)).setCell ⟨x,10,none⟩ (.int .i64 sz)).setCell ⟨x,11,none⟩ v
theorem nine_kp (w : World) (x : Nat) (n e k s c q : Int) (nm : ByteArray) (sz : Int) (v : Value) : Kp (· = x) w (nine w x n e k s c q nm sz v) := by
 unfold nine
 exact ((((((((((Kp.refl (· = x) w).setCell (p := ⟨x,3,none⟩) (fun _ => rfl) _).setCell (p := ⟨x,4,none⟩) (fun _ => rfl) _).setCell (p := ⟨x,5,none⟩) (fun _ => rfl) _).setCell (p := ⟨x,6,none⟩) (fun _ => rfl) _).setCell (p := ⟨x,7,none⟩) (fun _ => rfl) _).setCell (p := ⟨x,8,none⟩) (fun _ => rfl) _).setCell (p := ⟨x,9,none⟩) (fun _ => rfl) _).setCell (p := ⟨x,10,none⟩) (fun _ => rfl) _).setCell (p := ⟨x,11,none⟩) (fun _ => rfl) _)
theorem nine_blk {w : World} {x : Nat} {T : TypeId} {a0 a1 a2 a3 a4 a5 a6 a7 a8 a9 a10 a11 a12 a13 a14 a15 : Value} (h : Blk w x T [a0,a1,a2,a3,a4,a5,a6,a7,a8,a9,a10,a11,a12,a13,a14,a15]) (n e k s c q : Int) (nm : ByteArray) (sz : Int) (v : Value) :
 Blk (nine w x n e k s c q nm sz v) x T [a0,a1,a2,.int .i64 n,.int .i64 e,.int .i64 k,.int .i64 s,.int .i64 c,.int .i64 q,.string nm,.int .i64 sz,v,a12,a13,a14,a15] := by
 unfold nine
 exact Blk.set (Blk.set (Blk.set (Blk.set (Blk.set (Blk.set (Blk.set (Blk.set (Blk.set h 3 (.int .i64 n)) 4 (.int .i64 e)) 5 (.int .i64 k)) 6 (.int .i64 s)) 7 (.int .i64 c)) 8 (.int .i64 q)) 9 (.string nm)) 10 (.int .i64 sz)) 11 v
def sixteen (w : World) (y : Nat) (v0 v1 v2 v3 v4 v5 v6 v7 v8 v9 v10 v11 v12 v13 v14 v15 : Value) : World :=
 (((((((((((((((w.setCell ⟨y,0,none⟩ v0).setCell ⟨y,1,none⟩ v1).setCell ⟨y,2,none⟩ v2).setCell ⟨y,3,none⟩ v3).setCell ⟨y,4,none⟩ v4).setCell ⟨y,5,none⟩ v5).setCell ⟨y,6,none⟩ v6).setCell ⟨y,7,none⟩ v7).setCell ⟨y,8,none⟩ v8).setCell ⟨y,9,none⟩ v9).setCell ⟨y,10,none⟩ v10).setCell ⟨y,11,none⟩ v11).setCell ⟨y,12,none⟩ v12).setCell ⟨y,13,none⟩ v13).setCell ⟨y,14,none⟩ v14).setCell ⟨y,15,none⟩ v15
theorem sixteen_kp (w : World) (y : Nat) (v0 v1 v2 v3 v4 v5 v6 v7 v8 v9 v10 v11 v12 v13 v14 v15 : Value) : Kp (· = y) w (sixteen w y v0 v1 v2 v3 v4 v5 v6 v7 v8 v9 v10 v11 v12 v13 v14 v15) := by
 unfold sixteen
 exact (((((((((((((((((Kp.refl (· = y) w).setCell (p := ⟨y,0,none⟩) (fun _ => rfl) _).setCell (p := ⟨y,1,none⟩) (fun _ => rfl) _).setCell (p := ⟨y,2,none⟩) (fun _ => rfl) _).setCell (p := ⟨y,3,none⟩) (fun _ => rfl) _).setCell (p := ⟨y,4,none⟩) (fun _ => rfl) _).setCell (p := ⟨y,5,none⟩) (fun _ => rfl) _).setCell (p := ⟨y,6,none⟩) (fun _ => rfl) _).setCell (p := ⟨y,7,none⟩) (fun _ => rfl) _).setCell (p := ⟨y,8,none⟩) (fun _ => rfl) _).setCell (p := ⟨y,9,none⟩) (fun _ => rfl) _).setCell (p := ⟨y,10,none⟩) (fun _ => rfl) _).setCell (p := ⟨y,11,none⟩) (fun _ => rfl) _).setCell (p := ⟨y,12,none⟩) (fun _ => rfl) _).setCell (p := ⟨y,13,none⟩) (fun _ => rfl) _).setCell (p := ⟨y,14,none⟩) (fun _ => rfl) _).setCell (p := ⟨y,15,none⟩) (fun _ => rfl) _)
theorem sixteen_blk {w : World} {y : Nat} {T : TypeId} {a0 a1 a2 a3 a4 a5 a6 a7 a8 a9 a10 a11 a12 a13 a14 a15 : Value} (h : Blk w y T [a0,a1,a2,a3,a4,a5,a6,a7,a8,a9,a10,a11,a12,a13,a14,a15]) (v0 v1 v2 v3 v4 v5 v6 v7 v8 v9 v10 v11 v12 v13 v14 v15 : Value) : Blk (sixteen w y v0 v1 v2 v3 v4 v5 v6 v7 v8 v9 v10 v11 v12 v13 v14 v15) y T [v0,v1,v2,v3,v4,v5,v6,v7,v8,v9,v10,v11,v12,v13,v14,v15] := by
 unfold sixteen
 exact (Blk.set (Blk.set (Blk.set (Blk.set (Blk.set (Blk.set (Blk.set (Blk.set (Blk.set (Blk.set (Blk.set (Blk.set (Blk.set (Blk.set (Blk.set (Blk.set h 0 v0) 1 v1) 2 v2) 3 v3) 4 v4) 5 v5) 6 v6) 7 v7) 8 v8) 9 v9) 10 v10) 11 v11) 12 v12) 13 v13) 14 v14) 15 v15)
theorem Rp.at_oplF {w : World} {S : Nat → Prop} {A : Option Addr} {c : Nat} {l : List OpL} (h : Rp.oplF.slice.R w S [.slice A l.length c] l) {i : Nat} {o : OpL} (hi : l[i]? = some o) :
 ∃ ad A' c',A = some ad ∧ S ad.block ∧ Rp.cellsAt w (ad.add (i * 9)) (o.cells (.slice A' o.hashes.length c')) ∧ o.nums ∧ Rp.str.slice.R w S [.slice A' o.hashes.length c'] o.hashes ∧ Soft w S (.slice A' o.hashes.length c') o.hashes.length := by
 obtain ⟨A',c',he,_,_,h3⟩ := h
 simp only [List.cons.injEq,Value.slice.injEq,and_true,true_and] at he
 obtain ⟨rfl,rfl⟩ := he
 have hl : 0 < l.length := by have := (List.getElem?_eq_some_iff.1 hi).1;omega
 obtain ⟨ad,rfl,hb,hc⟩ := h3 hl
 obtain ⟨es,he,v,rfl,hn,hr,hf⟩ := hc i o hi
 obtain ⟨A2,c2,hv,_⟩ := id hr
 simp only [List.cons.injEq,and_true] at hv
 subst hv
 exact ⟨ad,A2,c2,rfl,hb,he,hn,hr,hf⟩
set_option maxRecDepth 100000 in
set_option maxHeartbeats 8000000 in
theorem r_ownF (c : CmdL) (A B : Option Addr) (ca cb : Nat) (w : World) (S : Nat → Prop) (hn : c.nums) (hh : Rp.str.slice.R w S [.slice A c.op.hashes.length ca] c.op.hashes) (ho : Rp.opl.slice.R w S [.slice B c.ops.length cb] c.ops)
 (hll : c.op.hashes.length ≤ 1000000) (hol : c.ops.length ≤ 1000000) (hsm : ∀ o ∈ c.ops,o.hashes.length ≤ 1000000) :
 Calls Tryz.prog 11 #[cmdV c (.slice A c.op.hashes.length ca) (.slice B c.ops.length cb)] w fun e w' => ∃ A' c' B' d',e = .returned (cmdV c (.slice A' c.op.hashes.length c') (.slice B' c.ops.length d')) ∧
  Rp.str.slice.R w' (fun k => w.heap.size ≤ k) [.slice A' c.op.hashes.length c'] c.op.hashes ∧ Rp.opl.slice.R w' (fun k => w.heap.size ≤ k) [.slice B' c.ops.length d'] c.ops ∧ Soft w' (fun k => w.heap.size ≤ k) (.slice A' c.op.hashes.length c') c.op.hashes.length ∧ Own Rp.oplF w' (fun k => w.heap.size ≤ k) w.heap.size 36 (.slice B' c.ops.length d') c.ops ∧ Kp No w w' := by
 obtain ⟨x,hx⟩ : ∃ x,w.heap.size = x := ⟨_,rfl⟩
 obtain ⟨wa,hwa⟩ : ∃ wa,(w.alloc (.cells (cmdC c (.slice A c.op.hashes.length ca) (.slice B c.ops.length cb)).toArray 39)).alloc (.cells #[.int .i64 0,.int .i64 0,.int .i64 0,.int .i64 0,.int .i64 0,.int .i64 0,.int .i64 0,.int .i64 0,.int .i64 0,.string { data := #[] },.int .i64 0,.slice none 0 0,.int .i64 0,.int .i64 0,.slice none 0 0,.int .i64 0] 39) = wa := ⟨_,rfl⟩
 have hka : Kp No w wa := by rw [← hwa];exact ((Kp.refl _ _).alloc _).alloc _
 have hba : Blk wa x 39 (cmdC c (.slice A c.op.hashes.length ca) (.slice B c.ops.length cb)) := by rw [← hwa,← hx];exact (Blk.new w _ _).kept (S := No) ((Kp.refl _ _).alloc _) (fun x => x)
 have hbr : Blk wa (x + 1) 39 [.int .i64 0,.int .i64 0,.int .i64 0,.int .i64 0,.int .i64 0,.int .i64 0,.int .i64 0,.int .i64 0,.int .i64 0,.string { data := #[] },.int .i64 0,.slice none 0 0,.int .i64 0,.int .i64 0,.slice none 0 0,.int .i64 0] := by
  rw [← hwa,← hx]
  have := Blk.new (w.alloc (.cells (cmdC c (.slice A c.op.hashes.length ca) (.slice B c.ops.length cb)).toArray 39)) [.int .i64 0,.int .i64 0,.int .i64 0,.int .i64 0,.int .i64 0,.int .i64 0,.int .i64 0,.int .i64 0,.int .i64 0,.string { data := #[] },.int .i64 0,.slice none 0 0,.int .i64 0,.int .i64 0,.slice none 0 0,.int .i64 0] 39
  simpa using this
 have hsz : wa.heap.size = x + 2 := by rw [← hwa,← hx];simp
 have hlit := run_lit_opl wa c.op (.slice A c.op.hashes.length ca)
 have hr1 := r_ownopsF [c.op] (some ⟨x + 2,0,none⟩) 1 (wa.alloc (.cells (c.op.cells (.slice A c.op.hashes.length ca)).toArray 36)) (fun k => S k ∨ k = x + 2) (by
  have := opl_lit wa c.op (.slice A c.op.hashes.length ca) (fun k => S k ∨ k = x + 2) (.inr hsz) hn.2.2.2.1 (Rp.str.slice.more (Rp.str.slice.keptNo hh hka) (fun _ h => .inl h))
  rw [hsz] at this
  exact this) (by simp) (fun o hm => by rw [List.mem_singleton.1 hm];exact hll)
 have hr2 := fun w2 (hk : Kp No w w2) => r_ownopsF c.ops B cb w2 S (Rp.opl.slice.keptNo ho hk) hol hsm
 rw [hsz] at hlit
 have HN := Lib.hid hn
 have HKA := Lib.hid hka
 have HBA := Lib.hid hba
 have HBR := Lib.hid hbr
 obtain ⟨hnm,hhn⟩ : ∃ k,c.op.hashes.length = k := ⟨_,rfl⟩
 obtain ⟨onm,hon⟩ : ∃ k,c.ops.length = k := ⟨_,rfl⟩
 have HHN := Lib.hid hhn
 have HON := Lib.hid hon
 rw [hhn,hon] at hwa hba HBA
 rw [hhn] at hlit hr1 ⊢
 rw [hon] at hr2 ⊢
 unfold cmdC at hwa hba HBA
 unfold OpL.cells at hlit hr1
 unfold cmdV
 have HX := Lib.hid hx
 have HSZ := Lib.hid hsz
 have HLIT := Lib.hid hlit
 have HR1 := Lib.hid hr1
 have HR2 := Lib.hid hr2
 obtain ⟨ck,ep,st,⟨on,oe,ok,os,oc,oq,nm,osz,ohs⟩,an,ae,ops,tg⟩ := c
 simp only at *
 clear hka hbr hsz hlit hr1 hr2 hh ho hll hol hsm hhn hon hn
 have z0 : wa.cell? ⟨x,0,none⟩ = some _ := Blk.cell hba rfl
 have z1 : wa.cell? ⟨x,1,none⟩ = some _ := Blk.cell hba rfl
 have z2 : wa.cell? ⟨x,2,none⟩ = some _ := Blk.cell hba rfl
 have z3 : wa.cell? ⟨x,3,none⟩ = some _ := Blk.cell hba rfl
 have z4 : wa.cell? ⟨x,4,none⟩ = some _ := Blk.cell hba rfl
 have z5 : wa.cell? ⟨x,5,none⟩ = some _ := Blk.cell hba rfl
 have z6 : wa.cell? ⟨x,6,none⟩ = some _ := Blk.cell hba rfl
 have z7 : wa.cell? ⟨x,7,none⟩ = some _ := Blk.cell hba rfl
 have z8 : wa.cell? ⟨x,8,none⟩ = some _ := Blk.cell hba rfl
 have z9 : wa.cell? ⟨x,9,none⟩ = some _ := Blk.cell hba rfl
 have z10 : wa.cell? ⟨x,10,none⟩ = some _ := Blk.cell hba rfl
 have z11 : wa.cell? ⟨x,11,none⟩ = some _ := Blk.cell hba rfl
 have z12 : wa.cell? ⟨x,12,none⟩ = some _ := Blk.cell hba rfl
 have z13 : wa.cell? ⟨x,13,none⟩ = some _ := Blk.cell hba rfl
 have z14 : wa.cell? ⟨x,14,none⟩ = some _ := Blk.cell hba rfl
 have z15 : wa.cell? ⟨x,15,none⟩ = some _ := Blk.cell hba rfl
 clear hba
 go_enter Tryz.func11,Tryz.ntmps11
 go_upto_region 1 with fail
 try rw [hwa]
 try rw [hx]
 clear hwa hx
 go_wp2_with (refine wpList_litW (by rfl) 37 _ rfl _ _ (by go_simp) HLIT.out ?_;go_simp)
 clear HLIT
 refine HR1.out.mono ?_
 rintro e w1 ⟨A1,c1,rfl,hown,hk1⟩
 obtain ⟨ad,A2,c2,hA,hSd,hcell,_,hhs,hfr⟩ := Rp.at_oplF hown.readFrom (i := 0) rfl
 obtain ⟨xs,⟨_,hxs⟩,_⟩ := id hown
 rcases hxs with ⟨_,hxs⟩ | ⟨g,cap,cur,he,hbg,hg,_⟩
 · cases hxs
 injection he with he1 he2 he3
 subst he1
 injection hA with hA
 subst hA
 have hsz1 : (wa.alloc (.cells #[.int .i64 on,.int .i64 oe,.int .i64 ok,.int .i64 os,.int .i64 oc,.int .i64 oq,.string nm,.int .i64 osz,.slice A hnm ca] 36)).heap.size = x + 3 := by have := HSZ.out;simp;omega
 have hka1 : Kp No wa w1 := ((Kp.refl _ _).alloc _).trans' hk1
 have hrd1 : Rp.str.slice.R w1 (fun k => x + 3 ≤ k) [.slice A2 ohs.length c2] ohs := Rp.str.slice.more hhs (fun k hk => by
  rcases hk with hk | hk
  · have := hk.1;omega
  · omega)
 have hf1 : Soft w1 (fun k => x + 3 ≤ k) (.slice A2 ohs.length c2) ohs.length := hfr.keep (fun k hk => by
  rcases hk with hk | hk
  · have := hk.1;omega
  · omega) (fun _ _ => rfl)
 have HF1 := Lib.hid hf1
 have hs1 := hka1.size
 have HRD1 := Lib.hid hrd1
 have HK1 := Lib.hid (HKA.out.trans' hka1)
 have hb1 := HBA.out.kept hka1 (fun x => x)
 have HBR1 := Lib.hid (HBR.out.kept hka1 (fun x => x))
 have HS1 : Hid (x + 3 ≤ w1.heap.size) := Lib.hid (by have := hk1.size;omega)
 have y0 : w1.cell? ⟨g,0,none⟩ = some (.int .i64 on) := hcell 0 _ rfl
 have y1 : w1.cell? ⟨g,1,none⟩ = some (.int .i64 oe) := hcell 1 _ rfl
 have y2 : w1.cell? ⟨g,2,none⟩ = some (.int .i64 ok) := hcell 2 _ rfl
 have y3 : w1.cell? ⟨g,3,none⟩ = some (.int .i64 os) := hcell 3 _ rfl
 have y4 : w1.cell? ⟨g,4,none⟩ = some (.int .i64 oc) := hcell 4 _ rfl
 have y5 : w1.cell? ⟨g,5,none⟩ = some (.int .i64 oq) := hcell 5 _ rfl
 have y6 : w1.cell? ⟨g,6,none⟩ = some (.string nm) := hcell 6 _ rfl
 have y7 : w1.cell? ⟨g,7,none⟩ = some (.int .i64 osz) := hcell 7 _ rfl
 have y8 : w1.cell? ⟨g,8,none⟩ = some (.slice A2 ohs.length c2) := hcell 8 _ rfl
 have hl1 : ohs.length = hnm := HHN.out
 rw [hl1] at y8 HRD1 HF1
 clear z0 z1 z2 z3 z4 z5 z6 z7 z8 z9 z10 z11 z12 z13 z14 z15 hown hk1 hcell hhs hSd hbg hg he2 he3 hrd1 hf1 hfr hka1 hs1 hsz1 hl1 HKA HBA HBR HR1
 obtain ⟨w2,hw2⟩ : ∃ w2,nine w1 x on oe ok os oc oq nm osz (.slice A2 hnm c2) = w2 := ⟨_,rfl⟩
 have hk2 : Kp (· = x) w1 w2 := by rw [← hw2];exact nine_kp _ _ _ _ _ _ _ _ _ _ _
 have hb2 : Blk w2 x 39 [.int .i64 ck,.int .i64 ep,.int .i64 st,.int .i64 on,.int .i64 oe,.int .i64 ok,.int .i64 os,.int .i64 oc,.int .i64 oq,.string nm,.int .i64 osz,.slice A2 hnm c2,.int .i64 an,.int .i64 ae,.slice B onm cb,.int .i64 tg] := by
  rw [← hw2]
  exact nine_blk hb1 _ _ _ _ _ _ _ _ _
 have HK2 := Lib.hid hk2
 have HB2 := Lib.hid hb2
 have hxw : w.heap.size = x := HX.out
 have hk02 : Kp No w w2 := HK1.out.trans hk2 (fun i hi e => by omega)
 have HK02 := Lib.hid hk02
 have z0 : w1.cell? ⟨x,0,none⟩ = some _ := Blk.cell hb1 rfl
 have z1 : w1.cell? ⟨x,1,none⟩ = some _ := Blk.cell hb1 rfl
 have z2 : w1.cell? ⟨x,2,none⟩ = some _ := Blk.cell hb1 rfl
 have z3 : w1.cell? ⟨x,3,none⟩ = some _ := Blk.cell hb1 rfl
 have z4 : w1.cell? ⟨x,4,none⟩ = some _ := Blk.cell hb1 rfl
 have z5 : w1.cell? ⟨x,5,none⟩ = some _ := Blk.cell hb1 rfl
 have z6 : w1.cell? ⟨x,6,none⟩ = some _ := Blk.cell hb1 rfl
 have z7 : w1.cell? ⟨x,7,none⟩ = some _ := Blk.cell hb1 rfl
 have z8 : w1.cell? ⟨x,8,none⟩ = some _ := Blk.cell hb1 rfl
 have z9 : w1.cell? ⟨x,9,none⟩ = some _ := Blk.cell hb1 rfl
 have z10 : w1.cell? ⟨x,10,none⟩ = some _ := Blk.cell hb1 rfl
 have z11 : w1.cell? ⟨x,11,none⟩ = some _ := Blk.cell hb1 rfl
 have z12 : w1.cell? ⟨x,12,none⟩ = some _ := Blk.cell hb1 rfl
 have z13 : w1.cell? ⟨x,13,none⟩ = some _ := Blk.cell hb1 rfl
 have z14 : w1.cell? ⟨x,14,none⟩ = some _ := Blk.cell hb1 rfl
 have z15 : w1.cell? ⟨x,15,none⟩ = some _ := Blk.cell hb1 rfl
 have g3 := Blk.fr hb1 3
 have g4 := Blk.fr hb1 4
 have g5 := Blk.fr hb1 5
 have g6 := Blk.fr hb1 6
 have g7 := Blk.fr hb1 7
 have g8 := Blk.fr hb1 8
 have g9 := Blk.fr hb1 9
 have g10 := Blk.fr hb1 10
 have g11 := Blk.fr hb1 11
 have g14 := Blk.fr hb1 14
 unfold nine at hw2
 clear hb1 hb2 hk2 hk02 hxw
 go_upto_region 2 with fail
 try rw [hw2]
 clear hw2 z0 z1 z2 z3 z4 z5 z6 z7 z8 z9 z10 z11 z12 z13 z14 z15 y0 y1 y2 y3 y4 y5 y6 y7 y8 g3 g4 g5 g6 g7 g8 g9 g10 g11 g14
 have z14 : w2.cell? ⟨x,14,none⟩ = some _ := Blk.cell HB2.out rfl
 go_wp2_with fail
 refine (HR2.out w2 HK02.out).mono ?_
 rintro e w3 ⟨B2,d2,rfl,hown2,hk3⟩
 have hb3 := HB2.out.kept hk3 (fun x => x)
 have z14' : w3.cell? ⟨x,14,none⟩ = some _ := Blk.cell hb3 rfl
 have g14 := Blk.fr hb3 14
 have HRD2 : Hid (Rp.opl.slice.R w3 (fun k => x + 3 ≤ k) [.slice B2 onm d2] ops) := Lib.hid (by
  have h := hown2.opl_of.readFrom
  refine Rp.opl.slice.more h (fun k hk => ?_)
  have h1 := HK2.out.size
  have h2 := HS1.out
  rcases hk with hk | hk
  · have := hk.1;omega
  · omega)
 have HO2 : Hid (Own Rp.oplF w3 (fun k => x + 3 ≤ k) (x + 3) 36 (.slice B2 onm d2) ops) := Lib.hid (hown2.mono (by have h1 := HK2.out.size;have h2 := HS1.out;omega) (fun k hk => by have h1 := HK2.out.size;have h2 := HS1.out;have := hk.1;omega))
 have HK3 := Lib.hid hk3
 have hb4 : Blk (w3.setCell ⟨x,14,none⟩ (.slice B2 onm d2)) x 39 [.int .i64 ck,.int .i64 ep,.int .i64 st,.int .i64 on,.int .i64 oe,.int .i64 ok,.int .i64 os,.int .i64 oc,.int .i64 oq,.string nm,.int .i64 osz,.slice A2 hnm c2,.int .i64 an,.int .i64 ae,.slice B2 onm d2,.int .i64 tg] := Blk.set hb3 14 (.slice B2 onm d2)
 have hk4 : Kp (· = x) w3 (w3.setCell ⟨x,14,none⟩ (.slice B2 onm d2)) := (Kp.refl (· = x) w3).setCell (p := ⟨x,14,none⟩) (fun _ => rfl) _
 have HB4 := Lib.hid hb4
 have HK4 := Lib.hid hk4
 clear hb3 hown2 hk3 hb4 hk4 z14 HR2
 go_upto_region 3 with fail
 clear z14' g14
 generalize w3.setCell ⟨x,14,none⟩ (.slice B2 onm d2) = w4 at HB4 HK4 ⊢
 have hbr4 : Blk w4 (x + 1) 39 [.int .i64 0,.int .i64 0,.int .i64 0,.int .i64 0,.int .i64 0,.int .i64 0,.int .i64 0,.int .i64 0,.int .i64 0,.string { data := #[] },.int .i64 0,.slice none 0 0,.int .i64 0,.int .i64 0,.slice none 0 0,.int .i64 0] :=
  ((HBR1.out.kept HK2.out (fun e => by omega)).kept HK3.out (fun x => x)).kept HK4.out (fun e => by omega)
 have HBR4 := Lib.hid hbr4
 have hb4 := HB4.out
 have z0 : w4.cell? ⟨x,0,none⟩ = some _ := Blk.cell hb4 rfl
 have z1 : w4.cell? ⟨x,1,none⟩ = some _ := Blk.cell hb4 rfl
 have z2 : w4.cell? ⟨x,2,none⟩ = some _ := Blk.cell hb4 rfl
 have z3 : w4.cell? ⟨x,3,none⟩ = some _ := Blk.cell hb4 rfl
 have z4 : w4.cell? ⟨x,4,none⟩ = some _ := Blk.cell hb4 rfl
 have z5 : w4.cell? ⟨x,5,none⟩ = some _ := Blk.cell hb4 rfl
 have z6 : w4.cell? ⟨x,6,none⟩ = some _ := Blk.cell hb4 rfl
 have z7 : w4.cell? ⟨x,7,none⟩ = some _ := Blk.cell hb4 rfl
 have z8 : w4.cell? ⟨x,8,none⟩ = some _ := Blk.cell hb4 rfl
 have z9 : w4.cell? ⟨x,9,none⟩ = some _ := Blk.cell hb4 rfl
 have z10 : w4.cell? ⟨x,10,none⟩ = some _ := Blk.cell hb4 rfl
 have z11 : w4.cell? ⟨x,11,none⟩ = some _ := Blk.cell hb4 rfl
 have z12 : w4.cell? ⟨x,12,none⟩ = some _ := Blk.cell hb4 rfl
 have z13 : w4.cell? ⟨x,13,none⟩ = some _ := Blk.cell hb4 rfl
 have z14 : w4.cell? ⟨x,14,none⟩ = some _ := Blk.cell hb4 rfl
 have z15 : w4.cell? ⟨x,15,none⟩ = some _ := Blk.cell hb4 rfl
 have u0 : w4.cell? ⟨x + 1,0,none⟩ = some _ := Blk.cell hbr4 rfl
 have f0 := Blk.fr hbr4 0
 have u1 : w4.cell? ⟨x + 1,1,none⟩ = some _ := Blk.cell hbr4 rfl
 have f1 := Blk.fr hbr4 1
 have u2 : w4.cell? ⟨x + 1,2,none⟩ = some _ := Blk.cell hbr4 rfl
 have f2 := Blk.fr hbr4 2
 have u3 : w4.cell? ⟨x + 1,3,none⟩ = some _ := Blk.cell hbr4 rfl
 have f3 := Blk.fr hbr4 3
 have u4 : w4.cell? ⟨x + 1,4,none⟩ = some _ := Blk.cell hbr4 rfl
 have f4 := Blk.fr hbr4 4
 have u5 : w4.cell? ⟨x + 1,5,none⟩ = some _ := Blk.cell hbr4 rfl
 have f5 := Blk.fr hbr4 5
 have u6 : w4.cell? ⟨x + 1,6,none⟩ = some _ := Blk.cell hbr4 rfl
 have f6 := Blk.fr hbr4 6
 have u7 : w4.cell? ⟨x + 1,7,none⟩ = some _ := Blk.cell hbr4 rfl
 have f7 := Blk.fr hbr4 7
 have u8 : w4.cell? ⟨x + 1,8,none⟩ = some _ := Blk.cell hbr4 rfl
 have f8 := Blk.fr hbr4 8
 have u9 : w4.cell? ⟨x + 1,9,none⟩ = some _ := Blk.cell hbr4 rfl
 have f9 := Blk.fr hbr4 9
 have u10 : w4.cell? ⟨x + 1,10,none⟩ = some _ := Blk.cell hbr4 rfl
 have f10 := Blk.fr hbr4 10
 have u11 : w4.cell? ⟨x + 1,11,none⟩ = some _ := Blk.cell hbr4 rfl
 have f11 := Blk.fr hbr4 11
 have u12 : w4.cell? ⟨x + 1,12,none⟩ = some _ := Blk.cell hbr4 rfl
 have f12 := Blk.fr hbr4 12
 have u13 : w4.cell? ⟨x + 1,13,none⟩ = some _ := Blk.cell hbr4 rfl
 have f13 := Blk.fr hbr4 13
 have u14 : w4.cell? ⟨x + 1,14,none⟩ = some _ := Blk.cell hbr4 rfl
 have f14 := Blk.fr hbr4 14
 have u15 : w4.cell? ⟨x + 1,15,none⟩ = some _ := Blk.cell hbr4 rfl
 have f15 := Blk.fr hbr4 15
 clear hb4 hbr4
 go_wp2_with fail
 clear z0 z1 z2 z3 z4 z5 z6 z7 z8 z9 z10 z11 z12 z13 z14 z15
 have hbf := sixteen_blk HBR4.out (.int .i64 ck) (.int .i64 ep) (.int .i64 st) (.int .i64 on) (.int .i64 oe) (.int .i64 ok) (.int .i64 os) (.int .i64 oc) (.int .i64 oq) (.string nm) (.int .i64 osz) (.slice A2 hnm c2) (.int .i64 an) (.int .i64 ae) (.slice B2 onm d2) (.int .i64 tg)
 have hkf := sixteen_kp w4 (x + 1) (.int .i64 ck) (.int .i64 ep) (.int .i64 st) (.int .i64 on) (.int .i64 oe) (.int .i64 ok) (.int .i64 os) (.int .i64 oc) (.int .i64 oq) (.string nm) (.int .i64 osz) (.slice A2 hnm c2) (.int .i64 an) (.int .i64 ae) (.slice B2 onm d2) (.int .i64 tg)
 have hwx : w.heap.size = x := HX.out
 have hk34 := HK4.out.mono (S' := fun k => k = x ∨ k = x + 1) (fun _ _ e => .inl e)
 have hk4f := hkf.mono (S' := fun k => k = x ∨ k = x + 1) (fun _ _ e => .inr e)
 have hk3f := hk34.trans hk4f (fun _ _ e => e)
 have hk23 := HK2.out.mono (S' := fun k => k = x ∨ k = x + 1) (fun _ _ e => .inl e)
 have hk1f := (hk23.transNo HK3.out).trans hk3f (fun _ _ e => e)
 have hr1 := Rp.str.slice.more (Rp.str.slice.kept HRD1.out hk1f (fun k hk _ e => by omega)) (fun k hk => by have : x + 3 ≤ k := hk;show w.heap.size ≤ k;omega)
 have hr2 := Rp.opl.slice.more (Rp.opl.slice.kept HRD2.out hk3f (fun k hk _ e => by omega)) (fun k hk => by have : x + 3 ≤ k := hk;show w.heap.size ≤ k;omega)
 have hf1 := (HF1.out.kept hk1f (fun k hk _ e => by omega)).keep (S' := fun k => w.heap.size ≤ k) (fun k hk => by have : x + 3 ≤ k := hk;show w.heap.size ≤ k;omega) (fun _ _ => rfl)
 have ho2 := (HO2.out.kept hk3f (fun k hk _ e => by omega) (fun k hk e => by have := (HO2.out.lt k hk).1;omega)).mono (base' := w.heap.size) (S' := fun k => w.heap.size ≤ k) (by omega) (fun k hk => by have : x + 3 ≤ k := hk;show w.heap.size ≤ k;omega)
 exact bodyPost_ret (results_cell_row rfl _ _ (x + 1) _ _ _ _ rfl hbf Tryz.underlying39 rfl (by kernel_rfl)) rfl ⟨A2,c2,B2,d2,rfl,hr1,hr2,hf1,ho2,HK1.out.trans hk1f (fun i hi e => by omega)⟩
end
section
open Go.RowKit Go.ChangeShapes Go.WideShapes Go.ChangeAt
theorem sumμ_memL {α : Type} {f : α → Nat} {a : α} : ∀ {l : List α},a ∈ l → f a ≤ Rp.sumμ f l
 | b :: l,h => by
   unfold Rp.sumμ
   rw [List.map_cons,List.sum_cons]
   rcases List.mem_cons.1 h with rfl | h
   · omega
   · have := sumμ_memL (f := f) h
     unfold Rp.sumμ at this
     omega
theorem sumμ_lengthL {α : Type} {f : α → Nat} (hf : ∀ a,1 ≤ f a) : ∀ l : List α,l.length ≤ Rp.sumμ f l
 | [] => Nat.zero_le _
 | b :: l => by
   have := sumμ_lengthL hf l
   have := hf b
   unfold Rp.sumμ at *
   rw [List.map_cons,List.sum_cons,List.length_cons];omega
theorem strs_μ (l : List ByteArray) : l.length + 1 ≤ Rp.str.slice.μ l := by
 have := sumμ_lengthL (f := Rp.str.μ) (fun a => by show 1 ≤ a.size + 1;omega) l
 show _ ≤ 1 + Rp.sumμ Rp.str.μ l
 omega
theorem opl_μ (o : OpL) : o.hashes.length + 1 ≤ Rp.opl.μ o := by
 have := strs_μ o.hashes
 show _ ≤ o.name.size + Rp.str.slice.μ o.hashes
 omega
theorem cmd_μ (c : CmdL) : c.op.hashes.length + 1 ≤ Rp.cmd.μ c ∧ c.ops.length + 1 ≤ Rp.cmd.μ c ∧ ∀ o ∈ c.ops,o.hashes.length ≤ Rp.cmd.μ c := by
 have h1 := opl_μ c.op
 have h2 := sumμ_lengthL (f := Rp.opl.μ) (fun o => by have := opl_μ o;omega) c.ops
 have e : Rp.cmd.μ c = Rp.opl.μ c.op + (1 + Rp.sumμ Rp.opl.μ c.ops) := rfl
 refine ⟨by omega,by omega,fun o ho => ?_⟩
 have h3 := sumμ_memL (f := Rp.opl.μ) ho
 have h4 := opl_μ o
 omega
theorem cmd_small {c : CmdL} (h : Rp.cmd.μ c ≤ 1048576) : SmallC 1048576 1048576 c := by
 obtain ⟨h1,h2,h3⟩ := cmd_μ c
 exact ⟨by omega,by omega,fun o ho => by have := h3 o ho;omega⟩
theorem cmds_small {l : List CmdL} (h : Rp.cmd.slice.μ l ≤ 1048576) : ∀ c ∈ l,SmallC 1048576 1048576 c := fun c hc => by
 have e : Rp.cmd.slice.μ l = 1 + Rp.sumμ Rp.cmd.μ l := rfl
 have h3 := sumμ_memL (f := Rp.cmd.μ) hc
 exact cmd_small (by omega)
theorem SmallC.mono {m k m' k' : Nat} {c : CmdL} (h : SmallC m k c) (hm : m ≤ m') (hk : k ≤ k') : SmallC m' k' c := ⟨by have := h.1;omega,by have := h.2.1;omega,fun o ho => by have := h.2.2 o ho;omega⟩
theorem Side.begin_ {w0 w : World} {l : Nat} {L : LV} {F : Nat → Prop} (h : LAt w l L F) (hF : ∀ k,F k → w0.heap.size ≤ k) (hk : Kp No w0 w) : Side w0 w l L [] :=
 ⟨⟨F,h,hF,fun _ hb => absurd hb List.not_mem_nil⟩,fun _ hb => absurd hb List.not_mem_nil,fun _ hb => absurd hb List.not_mem_nil,List.nodup_nil,hk⟩
end
end Go.Proofs.YtjlbacfedfkilaaGreat
