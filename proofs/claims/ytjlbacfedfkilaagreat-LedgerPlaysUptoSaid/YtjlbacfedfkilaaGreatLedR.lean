/-
  A ledger, plainly: what a command does to it (LedgerRow), and what one that is refused does (LedgerRefused).
-/
import Derived.Test.YtjlbacfedfkilaaGreatGH
namespace Go.Proofs.YtjlbacfedfkilaaGreat
open Go.RowKit Go.ChangeShapes Go.WideShapes Go.ChangeAt
structure Went (L L' : LV) : Prop where
 ex : ∃ k m,k ≤ L.ops.length ∧ L'.lost = L.lost ++ (L.ops.drop k).map OpL.stripped ∧ L'.ops = L.ops.take k ++ m
 fence : L.fence ≤ L'.fence
 lim : L'.quota = L.quota ∧ L'.room = L.room
theorem Went.same {L L' : LV} (ho : L'.ops = L.ops) (hl : L'.lost = L.lost) (hf : L.fence ≤ L'.fence) (hq : L'.quota = L.quota ∧ L'.room = L.room) : Went L L' :=
 ⟨⟨L.ops.length,[],Nat.le_refl _,by rw [hl,List.drop_length];simp,by rw [ho,List.take_length,List.append_nil]⟩,hf,hq⟩
theorem Went.put {L : LV} (o : OpL) (e s : Int) {f : Int} (hf : L.fence ≤ f) : Went L (putL o e s { L with fence := f }).2 :=
 ⟨⟨L.ops.length,[o.placed (L.ops.length + 1) e s],Nat.le_refl _,by show L.lost = _;rw [List.drop_length];simp,by show L.ops ++ _ = _;rw [List.take_length]⟩,hf,rfl,rfl⟩
theorem Went.refl (L : LV) : Went L L := .same rfl rfl (Int.le_refl _) ⟨rfl,rfl⟩
theorem doNew_went (c : CmdL) (L : LV) : Went L (doNew c L).2 := by
 unfold doNew
 split
 · exact .refl L
 · split
   · exact .refl L
   · split
     · exact .refl L
     · split
       · exact .refl L
       · exact Went.put c.op c.epoch c.site (Int.le_refl L.fence)
theorem do_went (c : CmdL) (L : LV) : Went L (doL c L).2 := by
 unfold doL
 split
 · split
   · split
     · exact .refl L
     · exact doNew_went c L
   · exact doNew_went c L
 · exact .refl L
theorem reign_went (c : CmdL) (L : LV) : Went L (reignL c L).2 := by
 unfold reignL
 split
 · exact .refl L
 · rename_i h1
   split
   · exact .refl L
   · exact Went.put reignOp c.epoch c.site (by omega)
theorem mark_went (c : CmdL) (L : LV) : Went L (markL c L).2 := by
 unfold markL
 split
 · split
   · exact .same rfl rfl (Int.le_refl _) ⟨rfl,rfl⟩
   · exact .refl L
 · exact .refl L
theorem part_ops (p : Nat) (L : LV) : (partL p L).ops = L.ops.take p ∧ (partL p L).lost = L.lost ++ (L.ops.drop p).map OpL.stripped ∧ (partL p L).fence = L.fence ∧ (partL p L).quota = L.quota ∧ (partL p L).room = L.room := by
 unfold partL
 split
 · rename_i h
   exact ⟨(List.take_of_length_le h).symm,by rw [List.drop_eq_nil_of_le h];simp,rfl,rfl,rfl⟩
 · exact ⟨rfl,rfl,rfl,rfl,rfl⟩
theorem ship_went (c : CmdL) (L : LV) : Went L (shipL c L).2 := by
 unfold shipL
 split
 · exact .refl L
 · rename_i h1
   have hf : L.fence ≤ c.epoch := by omega
   simp only
   split
   · split
     · exact .same rfl rfl hf ⟨rfl,rfl⟩
     · rename_i o rest _
       split
       · exact .same rfl rfl hf ⟨rfl,rfl⟩
       · obtain ⟨e1,e2,e3,e4,e5⟩ := part_ops (o.n - 1).toNat { L with fence := c.epoch }
         simp only at e1 e2 e3 e4 e5
         refine ⟨?_,?_,?_,?_⟩
         · rcases Nat.le_total (o.n - 1).toNat L.ops.length with hle | hle
           · exact ⟨(o.n - 1).toNat,o :: rest,hle,e2,by simp only [e1]⟩
           · refine ⟨L.ops.length,o :: rest,Nat.le_refl _,?_,?_⟩
             · rw [List.drop_length,e2,List.drop_eq_nil_of_le hle]
             · rw [List.take_length];simp only [e1,List.take_of_length_le hle]
         · simp only [e3];exact hf
         · exact e4
         · exact e5
   · exact .same rfl rfl hf ⟨rfl,rfl⟩
theorem apply_went (c : CmdL) (L : LV) : Went L (applyL c L).2 := by
 unfold applyL
 split
 · split
   · exact do_went c L
   · split
     · exact ship_went c L
     · split
       · exact reign_went c L
       · split
         · exact mark_went c L
         · exact .refl L
 · exact .refl L
structure Kept (c : CmdL) (L : LV) (d : Done3) (L' : LV) : Prop where
 at_ : d = failD d.1
 ops : L'.ops = L.ops
 lost : L'.lost = L.lost
 settled : L'.settled = L.settled
 fence : L'.fence = L.fence ∨ (c.kind = 3 ∧ d.1 = 121 ∧ L'.fence = c.epoch)
theorem Kept.fail (c : CmdL) (L : LV) (e : Int) : Kept c L (failD e) L := ⟨rfl,rfl,rfl,rfl,.inl rfl⟩
end Go.Proofs.YtjlbacfedfkilaaGreat
