/-
  Put together: ResC, OkLs.
-/
import Derived.Test.YtjlbacfedfkilaaGreatGA
import Derived.Laws.ResultCell
import Derived.Test.YtjlbacfedfkilaaGreatGI
import Derived.Test.YtjlbacfedfkilaaGreatGH
namespace Go.Proofs.YtjlbacfedfkilaaGreat
section
open Go.RowKit Go.ChangeShapes Go.WideShapes Go.ChangeAt
theorem results_cuD {P : Program} {fn : Func} {p u : Tmp} {ty : TypeId} (h : fn.results = #[.cell p ty,.tmp u]) (tmps : Array Value) (w : World) (g : Nat) (t : TypeId) (cs : Array Value) (fr : Nat × Nat) (d : TypeDesc)
 (hp : tmps.getD p undef = .pointer (some ⟨g,0,none⟩)) (hg : w.heap[g]? = some (.cells cs t fr)) (hu : P.underlying ty = some d) (hd : (match d with | .struct _ | .array _ _ => true | _ => false) = true) (hi : (P.info? ty).map (·.size) = some cs.size) :
 (results fn tmps).run P w = .ok (.tuple #[.agg cs,tmps.getD u undef]) w := by
 rw [results_cell_tmp h,hp]
 simp [asAddr,run_loadVar_row w g t ty cs fr d hg hu hd hi,Result.andThen]
end
section
open Go.RowKit Go.ChangeShapes Go.WideShapes Go.ChangeAt
theorem live_sheets : ∀ (l : List OpL) (f : FV),(∀ p ∈ f.live,p.2.2.length ≤ 8 ∧ 0 ≤ p.2.1 ∧ p.2.1 ≤ 512) → (∀ o ∈ l,okP o) → ∀ p ∈ (f.take l).live,p.2.2.length ≤ 8 ∧ 0 ≤ p.2.1 ∧ p.2.1 ≤ 512
 | [],f,h,_ => h
 | o :: l,f,h,ho => by
   refine live_sheets l (f.take1 o) ?_ (fun x hx => ho x (List.mem_cons_of_mem _ hx))
   intro p hp
   have h1 := ho o List.mem_cons_self
   unfold FV.take1 at hp
   split at hp
   · exact h p hp
   · simp only at hp
     split at hp
     · rcases mem_mput _ _ _ _ hp with hp | hp
       · rw [hp]
         exact ⟨h1.hashes,h1.size⟩
       · exact h p (mem_mdel _ _ _ hp)
     · exact h p (mem_mdel _ _ _ hp)
theorem mget_mem' {κ ν : Type} [DecidableEq κ] {k : κ} {v : ν} : ∀ {l : List (κ × ν)},mget k l = some v → (k,v) ∈ l
 | (k',v') :: l,h => by
   unfold mget at h
   split at h
   · rename_i e
     injection h with h
     rw [← h,e];exact List.mem_cons_self
   · exact List.mem_cons_of_mem _ (mget_mem' h)
theorem OkL.sheet {B : Nat} {L : LV} (h : OkL B L) (nm : ByteArray) : (sheetOf nm L).2.length ≤ 8 ∧ 0 ≤ (sheetOf nm L).1 ∧ (sheetOf nm L).1 ≤ 512 := by
 unfold sheetOf
 cases hg : mget nm L.fold.live with
 | none => exact ⟨Nat.zero_le _,Int.le_refl _,by decide⟩
 | some v => exact live_sheets L.ops FV.fresh (fun p hp => by cases hp) (fun _ ho => h.okOf ho) _ (mget_mem' hg)
theorem OkL.last {B : Nat} {L : LV} (h : OkL B L) : I64 (lastL L).1 ∧ I64 (lastL L).2 := by
 unfold lastL
 cases hl : L.ops.getLast? with
 | none => exact ⟨rfl,rfl⟩
 | some o =>
   have ho := h.okOf (List.mem_of_getLast? hl)
   have h1 := ho.1
   unfold placeP reignP at h1
   exact ⟨I64.of (by simp only;omega),I64.of (by simp only;omega)⟩
end
end Go.Proofs.YtjlbacfedfkilaaGreat
