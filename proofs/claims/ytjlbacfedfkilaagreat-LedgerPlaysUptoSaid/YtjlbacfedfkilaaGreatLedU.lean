/-
  (*Ledger).Used, Settled.
-/
import Derived.Test.YtjlbacfedfkilaaGreatLedQ
namespace Go.Proofs.YtjlbacfedfkilaaGreat
open Go.RowKit Go.ChangeShapes Go.WideShapes Go.ChangeAt
set_option maxRecDepth 100000 in
theorem u_settled (l : Nat) (L : LV) (F : Nat → Prop) (w : World) (h : LAt w l L F) : Calls Tryz.prog 55 #[.pointer (some ⟨l,0,none⟩)] w fun x w' => x = .returned (.int .i64 (L.settled)) ∧ w' = w := by
 obtain ⟨b1,b2,Ao,co,ll,hblk⟩ := h.blk
 have k := Blk.cell hblk (i := 8) rfl
 obtain ⟨v,hv⟩ : ∃ v,L.settled = v := ⟨_,rfl⟩
 rw [hv] at k
 rw [hv]
 clear hblk hv h
 go_enter Tryz.func55,Tryz.ntmps55
 go_wp2_with fail
 go_ret
 exact ⟨rfl,rfl⟩
set_option maxRecDepth 100000 in
theorem u_used (l : Nat) (L : LV) (F : Nat → Prop) (w : World) (h : LAt w l L F) : Calls Tryz.prog 53 #[.pointer (some ⟨l,0,none⟩)] w fun x w' => x = .returned (.int .i64 (L.fold.used)) ∧ w' = w := by
 obtain ⟨b1,b2,Ao,co,ll,hblk⟩ := h.blk
 have k := Blk.cell hblk (i := 1) rfl
 obtain ⟨v,hv⟩ : ∃ v,L.fold.used = v := ⟨_,rfl⟩
 rw [hv] at k
 rw [hv]
 clear hblk hv h
 go_enter Tryz.func53,Tryz.ntmps53
 go_wp2_with fail
 go_ret
 exact ⟨rfl,rfl⟩
end Go.Proofs.YtjlbacfedfkilaaGreat
