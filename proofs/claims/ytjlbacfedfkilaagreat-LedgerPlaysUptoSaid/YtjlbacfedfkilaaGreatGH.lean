/-
  Put together: Last, LedP, Appl.
-/
import Derived.Test.YtjlbacfedfkilaaGreatGG
import Derived.Test.YtjlbacfedfkilaaGreatGF
import Derived.Test.YtjlbacfedfkilaaGreatShip
import Derived.Test.YtjlbacfedfkilaaGreatLedD
namespace Go.Proofs.YtjlbacfedfkilaaGreat
section
open Go.RowKit Go.ChangeShapes Go.WideShapes Go.ChangeAt
set_option maxRecDepth 100000 in
set_option maxHeartbeats 2000000 in
theorem a_last (l : Nat) (L : LV) (F : Nat → Prop) (w : World) (h : LAt w l L F) (hl : L.ops.length ≤ 1000000) :
 Calls Tryz.prog 38 #[.pointer (some ⟨l,0,none⟩)] w fun x w' => x = .returned (.agg #[.int .i64 (lastL L).1,.int .i64 (lastL L).2]) ∧ Kp No w w' := by
 obtain ⟨b1,b2,ov,lv,S,hin,_⟩ := h
 obtain ⟨A,c,rfl⟩ := hin.oshape
 obtain ⟨x,hx⟩ : ∃ x,w.heap.size = x := ⟨_,rfl⟩
 obtain ⟨wa,hwa⟩ : ∃ wa,w.alloc (.cells #[.int .i64 0,.int .i64 0] 42) = wa := ⟨_,rfl⟩
 have hk : Kp No w wa := by rw [← hwa];exact (Kp.refl _ _).alloc _
 have hb : Blk wa x 42 [.int .i64 0,.int .i64 0] := by rw [← hwa,← hx];exact Blk.new w _ _
 have hi := hin.keptNo hk
 have k5 : wa.cell? ⟨l,5,none⟩ = some (.slice A L.ops.length c) := Blk.cell hi.fat.blk rfl
 have HI := Lib.hid hi
 have HB := Lib.hid hb
 have HK := Lib.hid hk
 have HX := Lib.hid hx
 obtain ⟨⟨p,q⟩,hp⟩ : ∃ p,lastL L = p := ⟨_,rfl⟩
 rw [hp]
 have HP := Lib.hid hp
 clear hp hi hk hin
 rcases Nat.eq_zero_or_pos L.ops.length with h0 | h0
 · have hz := List.eq_nil_of_length_eq_zero h0
   have hpq := HP.out
   unfold lastL at hpq
   rw [hz] at hpq
   simp only [List.getLast?_nil,Prod.mk.injEq] at hpq
   obtain ⟨rfl,rfl⟩ := hpq
   rw [h0] at k5
   have g0 := Blk.fr hb 0
   have g1 := Blk.fr hb 1
   have u0 : wa.cell? ⟨x,0,none⟩ = some _ := Blk.cell hb rfl
   have u1 : wa.cell? ⟨x,1,none⟩ = some _ := Blk.cell hb rfl
   clear h0 hz hb HP
   go_enter Tryz.func38,Tryz.ntmps38
   go_wp2_with fail
   have hbf : Blk ((wa.setCell ⟨x,0,none⟩ (.int .i64 0)).setCell ⟨x,1,none⟩ (.int .i64 0)) x 42 [.int .i64 0,.int .i64 0] := Blk.set (Blk.set HB.out 0 (.int .i64 0)) 1 (.int .i64 0)
   have hkf : Kp No w ((wa.setCell ⟨x,0,none⟩ (.int .i64 0)).setCell ⟨x,1,none⟩ (.int .i64 0)) := HK.out.trans (((Kp.refl (· = x) wa).setCell (p := ⟨x,0,none⟩) (fun _ => rfl) _).setCell (p := ⟨x,1,none⟩) (fun _ => rfl) _) (fun i hi e => by have := HX.out;omega)
   exact bodyPost_ret (results_cell_row rfl _ _ x _ _ _ _ rfl hbf Tryz.underlying42 rfl (by kernel_rfl)) rfl ⟨rfl,hkf⟩
 · obtain ⟨n,hn⟩ : ∃ n,L.ops.length = n + 1 := ⟨L.ops.length - 1,by omega⟩
   obtain ⟨o,ho⟩ : ∃ o,L.ops[n]? = some o := ⟨_,List.getElem?_eq_getElem (by omega)⟩
   have hpq := HP.out
   unfold lastL at hpq
   rw [List.getLast?_eq_getElem?,hn,show n + 1 - 1 = n from rfl,ho] at hpq
   simp only [Prod.mk.injEq] at hpq
   obtain ⟨rfl,rfl⟩ := hpq
   obtain ⟨g,A',c',rfl,_,_,hcell,_,_,_⟩ := Own.at_opl HI.out.ops ho
   have z0 : wa.cell? ⟨g,n * 9,none⟩ = some _ := hcell 0 _ rfl
   have z1 : wa.cell? ⟨g,n * 9 + 1,none⟩ = some _ := hcell 1 _ rfl
   have z2 : wa.cell? ⟨g,n * 9 + 2,none⟩ = some _ := hcell 2 _ rfl
   have z3 : wa.cell? ⟨g,n * 9 + 3,none⟩ = some _ := hcell 3 _ rfl
   have z4 : wa.cell? ⟨g,n * 9 + 4,none⟩ = some _ := hcell 4 _ rfl
   have z5 : wa.cell? ⟨g,n * 9 + 5,none⟩ = some _ := hcell 5 _ rfl
   have z6 : wa.cell? ⟨g,n * 9 + 6,none⟩ = some _ := hcell 6 _ rfl
   have z7 : wa.cell? ⟨g,n * 9 + 7,none⟩ = some _ := hcell 7 _ rfl
   have z8 : wa.cell? ⟨g,n * 9 + 8,none⟩ = some _ := hcell 8 _ rfl
   obtain ⟨nh,hnh⟩ : ∃ nh,o.hashes.length = nh := ⟨_,rfl⟩
   rw [hnh] at z8
   rw [hn] at k5
   have hn6 : n ≤ 1000000 := by omega
   have hwn : IntKind.i64.wrap (n : Int) = (n : Int) := by rw [IntKind.wrap_i64];omega
   have hnlt : (n : Int) < (n : Int) + 1 := by omega
   clear ho hcell hnh h0 hn hb HP hl
   go_enter Tryz.func38,Tryz.ntmps38
   go_upto_region 3 with fail
   clear hwa hx
   refine Reg.wp_region_plan [⟨0,false,[]⟩,⟨1,false,[]⟩,⟨2,false,[]⟩,⟨3,false,[]⟩,⟨4,false,[]⟩,⟨5,false,[]⟩,⟨6,false,[]⟩,⟨7,false,[]⟩,⟨8,false,[]⟩,⟨9,false,[]⟩,⟨10,false,[]⟩,⟨11,false,[]⟩,⟨12,true,[]⟩,⟨13,true,[]⟩] rfl (by kernel_rfl) ?_
   repeat (first | (refine Reg.look rfl rfl rfl (by go_simp;rfl) rfl ?_;go_simp) | (refine Reg.skip rfl rfl rfl ?_;go_simp))
   refine Reg.act rfl ?_
   go_wp2_with fail
   refine (l_spot o (.slice A' nh c') wa.drew).mono ?_
   rintro e w9 ⟨rfl,hk9⟩
   have hk9 := ((Kp.refl No wa).drew).trans' hk9
   have hb9 := HB.out.kept hk9 (fun x => x)
   have HB9 := Lib.hid hb9
   have HK9 := Lib.hid (HK.out.trans' hk9)
   have g0 := Blk.fr hb9 0
   have g1 := Blk.fr hb9 1
   have u0 : w9.cell? ⟨x,0,none⟩ = some _ := Blk.cell hb9 rfl
   have u1 : w9.cell? ⟨x,1,none⟩ = some _ := Blk.cell hb9 rfl
   clear hk9 hb9 z0 z1 z2 z3 z4 z5 z6 z7 z8 k5
   go_wp2_with fail
   refine ⟨Reg.anew_nil,?_⟩
   refine Reg.act rfl ?_
   go_wp2_with fail
   refine ⟨Reg.anew_nil,?_⟩
   (refine Reg.done ?_;simp only [Exit.then])
   clear g0 g1 u0 u1
   go_wp2_with fail
   have hbf : Blk ((w9.setCell ⟨x,0,none⟩ (.int .i64 o.n)).setCell ⟨x,1,none⟩ (.int .i64 o.epoch)) x 42 [.int .i64 o.n,.int .i64 o.epoch] := Blk.set (Blk.set HB9.out 0 (.int .i64 o.n)) 1 (.int .i64 o.epoch)
   have hkf : Kp No w ((w9.setCell ⟨x,0,none⟩ (.int .i64 o.n)).setCell ⟨x,1,none⟩ (.int .i64 o.epoch)) := HK9.out.trans (((Kp.refl (· = x) w9).setCell (p := ⟨x,0,none⟩) (fun _ => rfl) _).setCell (p := ⟨x,1,none⟩) (fun _ => rfl) _) (fun i hi e => by have := HX.out;omega)
   exact bodyPost_ret (results_cell_row rfl _ _ x _ _ _ _ rfl hbf Tryz.underlying42 rfl (by kernel_rfl)) rfl ⟨rfl,hkf⟩
end
section
open Go.RowKit Go.ChangeShapes Go.WideShapes Go.ChangeAt
def rowEnd : Int → Int → Int → List OpL → Int × Int × Int
 | n,e,s,[] => (n,e,s)
 | _,_,_,o :: t => rowEnd o.n o.epoch o.site t
theorem rowGo_append : ∀ (l m : List OpL) (n e s : Int),rowGo n e s (l ++ m) = (rowGo n e s l && rowGo (rowEnd n e s l).1 (rowEnd n e s l).2.1 (rowEnd n e s l).2.2 m)
 | [],m,n,e,s => by simp [rowGo,rowEnd]
 | o :: t,m,n,e,s => by
   simp only [List.cons_append,rowGo,rowEnd]
   rw [rowGo_append t m,Bool.and_assoc]
theorem rowEnd_snoc : ∀ (l : List OpL) (o : OpL) (n e s : Int),rowEnd n e s (l ++ [o]) = (o.n,o.epoch,o.site)
 | [],_,_,_,_ => rfl
 | x :: t,o,_,_,_ => rowEnd_snoc t o x.n x.epoch x.site
theorem take_snoc {α : Type} {l : List α} {k : Nat} {o : α} (h : l[k]? = some o) : l.take (k + 1) = l.take k ++ [o] := by
 rw [List.take_add_one,h];rfl
theorem rowEnd_take {l : List OpL} {k : Nat} {o : OpL} (h : l[k]? = some o) (n e s : Int) : rowEnd n e s (l.take (k + 1)) = (o.n,o.epoch,o.site) := by
 rw [take_snoc h,rowEnd_snoc]
theorem rowGo_take {l : List OpL} {n e s : Int} (h : rowGo n e s l = true) (k : Nat) : rowGo n e s (l.take k) = true := by
 rw [← List.take_append_drop k l,rowGo_append,Bool.and_eq_true] at h
 exact h.1
theorem rowGo_drop {l : List OpL} {n e s : Int} (h : rowGo n e s l = true) (k : Nat) : rowGo (rowEnd n e s (l.take k)).1 (rowEnd n e s (l.take k)).2.1 (rowEnd n e s (l.take k)).2.2 (l.drop k) = true := by
 rw [← List.take_append_drop k l,rowGo_append,Bool.and_eq_true] at h
 exact h.2
theorem OkL.end_ {B : Nat} {L : LV} (h : OkL B L) : (rowEnd 0 0 (-1) L.ops).1 = (L.ops.length : Int) ∧ (rowEnd 0 0 (-1) L.ops).2.1 = (lastL L).2 := by
 unfold lastL
 cases hl : L.ops.getLast? with
 | none =>
   rw [List.getLast?_eq_none_iff] at hl
   rw [hl];exact ⟨rfl,rfl⟩
 | some o =>
   rw [List.getLast?_eq_getElem?] at hl
   have hlt := (List.getElem?_eq_some_iff.1 hl).1
   have h1 := rowEnd_take hl 0 0 (-1)
   rw [show L.ops.length - 1 + 1 = L.ops.length by omega,List.take_length] at h1
   rw [h1]
   have := (h.at_ hl).2
   exact ⟨by show o.n = _;omega,rfl⟩
theorem foldE_snoc (f : FV) (l : List OpL) (o : OpL) : (f.take (l ++ [o])).hE = if o.kind = 3 then o.epoch else (f.take l).hE := by
 rw [FV.take_snoc];unfold FV.take1;split <;> rfl
theorem foldS_snoc (f : FV) (l : List OpL) (o : OpL) : (f.take (l ++ [o])).hS = if o.kind = 3 then o.site else (f.take l).hS := by
 rw [FV.take_snoc];unfold FV.take1;split <;> rfl
theorem rowHolder : ∀ (l : List OpL),rowGo 0 0 (-1) l = true → (FV.fresh.take l).hE = (rowEnd 0 0 (-1) l).2.1 ∧ (l ≠ [] → (FV.fresh.take l).hS = (rowEnd 0 0 (-1) l).2.2) := by
 intro l
 induction hn : l.length generalizing l with
 | zero =>
   obtain rfl := List.eq_nil_of_length_eq_zero hn
   intro _
   exact ⟨rfl,fun h => absurd rfl h⟩
 | succ n ih =>
   intro hr
   have hne : l ≠ [] := by rintro rfl;cases hn
   obtain ⟨t,o,rfl⟩ : ∃ t o,l = t ++ [o] := ⟨l.dropLast,l.getLast hne,(List.dropLast_concat_getLast hne).symm⟩
   have ht : t.length = n := by simpa using hn
   rw [rowGo_append,Bool.and_eq_true] at hr
   obtain ⟨h1,h2⟩ := hr
   obtain ⟨h3,h4⟩ := ih t ht h1
   rw [rowEnd_snoc,foldE_snoc,foldS_snoc]
   unfold rowGo at h2
   rw [Bool.and_eq_true,decide_eq_true_iff] at h2
   obtain ⟨⟨hok,hn1,hk⟩,_⟩ := h2
   by_cases hk3 : o.kind = 3
   · rw [if_pos hk3,if_pos hk3]
     exact ⟨rfl,fun _ => rfl⟩
   · rw [if_neg hk3,if_neg hk3]
     rcases hk with hk | ⟨_,he,hs⟩
     · exact absurd hk.1 hk3
     · have htne : t ≠ [] := by
        rintro rfl
        have h5 : o.epoch = 0 := he
        have := hok.1.2.2.1
        omega
       have hsne : ¬ (rowEnd 0 0 (-1) t).2.2 < 0 := by
        obtain ⟨t',o',rfl⟩ : ∃ t' o',t = t' ++ [o'] := ⟨t.dropLast,t.getLast htne,(List.dropLast_concat_getLast htne).symm⟩
        rw [rowEnd_snoc]
        have := (rowGo_at h1 t'.length o' (by simp)).1.1.2.2
        unfold reignP at this
        simp only
        omega
       refine ⟨?_,fun _ => ?_⟩
       · rw [h3];exact he.symm
       · rw [h4 htne]
         rcases hs with hs | hs
         · exact absurd hs hsne
         · exact hs.symm
namespace OkL
variable {B : Nat} {L : LV}
theorem mono (h : OkL B L) {B' : Nat} (hb : B ≤ B') : OkL B' L := ⟨h.row,h.fence,h.fence0,h.settled,h.bare,Nat.le_trans h.lost hb,h.quota,h.room⟩
theorem holder (h : OkL B L) : L.fold.hE = (rowEnd 0 0 (-1) L.ops).2.1 ∧ (L.ops ≠ [] → L.fold.hS = (rowEnd 0 0 (-1) L.ops).2.2) := rowHolder L.ops h.row
theorem last_le (h : OkL B L) : (rowEnd 0 0 (-1) L.ops).2.1 ≤ L.fence := by
 rw [h.end_.2]
 unfold lastL
 cases hl : L.ops.getLast? with
 | none => exact h.fence0.1
 | some o => exact h.fence o (List.mem_of_getLast? hl)
theorem put (h : OkL B L) (o : OpL) (e s : Int) (hp : nextP (rowEnd 0 0 (-1) L.ops).1 (rowEnd 0 0 (-1) L.ops).2.1 (rowEnd 0 0 (-1) L.ops).2.2 (o.placed (L.ops.length + 1) e s)) (he : e ≤ L.fence) : OkL B (putL o e s L).2 := by
 unfold putL
 refine ⟨?_,?_,h.fence0,⟨h.settled.1,?_⟩,h.bare,h.lost,h.quota,h.room⟩
 · rw [rowGo_append,h.row,Bool.true_and]
   unfold rowGo
   rw [Bool.and_eq_true,decide_eq_true_iff]
   exact ⟨hp,rfl⟩
 · intro x hx
   rcases List.mem_append.1 hx with hx | hx
   · exact h.fence x hx
   · rw [List.mem_singleton.1 hx];exact he
 · have := h.settled.2
   simp only [List.length_append,List.length_singleton]
   omega
end OkL
theorem reign_ok {B : Nat} {L : LV} (h : OkL B L) (c : CmdL) (hr : reignP c.epoch c.site) : OkL B (reignL c L).2 := by
 unfold reignL
 split
 · exact h
 · rename_i h1
   split
   · exact h
   · rename_i h2
     have h0 : OkL B { L with fence := c.epoch } := ⟨h.row,fun o ho => by have := h.fence o ho;show o.epoch ≤ c.epoch;omega,by unfold reignP at hr;exact ⟨by show 0 ≤ c.epoch;omega,hr.2.1⟩,h.settled,h.bare,h.lost,h.quota,h.room⟩
     refine h0.put reignOp c.epoch c.site ?_ (Int.le_refl _)
     have he := h.end_
     have hle := h.last_le
     show nextP (rowEnd 0 0 (-1) L.ops).1 (rowEnd 0 0 (-1) L.ops).2.1 _ (reignOp.placed (L.ops.length + 1) c.epoch c.site)
     refine ⟨⟨⟨?_,?_,hr⟩,.inr (.inr ⟨rfl,rfl,rfl,(show ByteArray.empty.size = 0 from rfl),rfl,rfl⟩)⟩,?_,.inl ⟨rfl,?_⟩⟩
     · show (1 : Int) ≤ (L.ops.length : Int) + 1;omega
     · show (L.ops.length : Int) + 1 ≤ 80;omega
     · show (L.ops.length : Int) + 1 = _;omega
     · show _ < c.epoch
       omega
theorem okP_placed {o : OpL} {e s n : Int} (h : okP (o.placed 1 e s)) (h1 : 1 ≤ n) (h2 : n ≤ 80) : okP (o.placed n e s) :=
 ⟨⟨h1,h2,h.1.2.2⟩,h.2⟩
theorem doNew_ok {B : Nat} {L : LV} (h : OkL B L) (c : CmdL) (hp : okP (c.op.placed 1 c.epoch c.site)) (hk3 : c.op.kind ≠ 3) (hh : holdsL c.epoch c.site L) : OkL B (doNew c L).2 := by
 unfold doNew
 split
 · exact h
 · split
   · exact h
   · split
     · exact h
     · split
       · exact h
       · rename_i h4
         obtain ⟨h5,h6,h7⟩ := hh
         have hr := h.room
         obtain ⟨g1,g2⟩ := h.holder
         have he := h.end_
         have hpe := hp.1.2.2
         unfold reignP at hpe
         have hpe1 : (1 : Int) ≤ c.epoch := hpe.1
         have hne : L.ops ≠ [] := by
          intro h0
          rw [h0] at g1
          have g3 : L.fold.hE = 0 := g1
          omega
         refine h.put c.op c.epoch c.site ⟨okP_placed hp (by omega) (by omega),?_,.inr ⟨hk3,?_,.inr ?_⟩⟩ (by omega)
         · show (L.ops.length : Int) + 1 = _;omega
         · show c.epoch = _;omega
         · show c.site = _
           have := g2 hne
           omega
theorem do_ok {B : Nat} {L : LV} (h : OkL B L) (c : CmdL) (hp : okP (c.op.placed 1 c.epoch c.site)) (hk3 : c.op.kind ≠ 3) : OkL B (doL c L).2 := by
 unfold doL
 split
 · rename_i hh
   split
   · split
     · exact h
     · exact doNew_ok h c hp hk3 hh
   · exact doNew_ok h c hp hk3 hh
 · exact h
theorem hasL_spec {n e : Int} {L : LV} (h : hasL n e L = true) (hn : 1 ≤ n) : ∃ o,L.ops[(n - 1).toNat]? = some o ∧ o.epoch = e ∧ n ≤ L.ops.length := by
 unfold hasL at h
 have hz : (n == 0) = false := beq_eq_false_iff_ne.2 (by omega)
 rw [hz,Bool.false_or,Bool.and_eq_true,decide_eq_true_iff] at h
 unfold epochAt at h
 cases ho : L.ops[(n - 1).toNat]? with
 | none => rw [ho] at h;exact absurd h.2 (by simp)
 | some o => rw [ho] at h;exact ⟨o,rfl,by simpa using h.2,h.1⟩
theorem mark_ok {B : Nat} {L : LV} (h : OkL B L) (c : CmdL) (hr : markP c) : OkL B (markL c L).2 := by
 unfold markL
 split
 · split
   · rename_i h1
     obtain ⟨o,_,_,h2⟩ := hasL_spec h1 hr.1
     exact ⟨h.row,h.fence,h.fence0,⟨by have := h.settled.1;show 0 ≤ max L.settled c.after;omega,by have := h.settled.2;show max L.settled c.after ≤ (L.ops.length : Int);omega⟩,h.bare,h.lost,h.quota,h.room⟩
   · exact h
 · exact h
theorem hadL_le' (L : LV) : ∀ l : List OpL,hadL L l ≤ l.length
 | [] => Nat.le_refl _
 | o :: t => by
   unfold hadL
   split
   · have := hadL_le' L t;simp;omega
   · simp
theorem hadL_at' (L : LV) : ∀ (l : List OpL) (i : Nat),i < hadL L l → ∃ o,l[i]? = some o ∧ hasL o.n o.epoch L = true
 | [],i,h => by simp [hadL] at h
 | o :: t,i,h => by
   unfold hadL at h
   split at h
   · rename_i ho
     cases i with
     | zero => exact ⟨o,rfl,ho⟩
     | succ i => exact hadL_at' L t i (by omega)
   · omega
theorem ship_joint {B : Nat} {L : LV} (h : OkL B L) {an ae : Int} {ops : List OpL} (hr : rowB an ae ops = true) (hh : hasL an ae L = true) (k : Nat) (hk : k ≤ hadL L ops) :
 0 ≤ an ∧ (rowEnd an ae (-1) (ops.take k)).1 = an + k ∧ an + k ≤ L.ops.length ∧ (an + k = 0 → (rowEnd an ae (-1) (ops.take k)).2.1 = 0 ∧ k = 0) ∧
 (∀ q,1 ≤ an + k → L.ops[(an + k - 1).toNat]? = some q → q.epoch = (rowEnd an ae (-1) (ops.take k)).2.1 ∧ q.n = an + k) := by
 unfold rowB at hr
 rw [Bool.and_eq_true,decide_eq_true_iff] at hr
 obtain ⟨⟨s1,s2,s3,s4,s5⟩,hr⟩ := hr
 have hat := rowGo_at hr
 cases k with
 | zero =>
   simp only [List.take_zero,rowEnd]
   refine ⟨s1,by omega,?_,fun h0 => ⟨s5.1 (by omega),trivial⟩,fun q hq hs => ?_⟩
   · by_cases ha : an = 0
     · subst ha;simp
     · obtain ⟨o,_,_,h3⟩ := hasL_spec hh (by omega)
       simpa using h3
   · obtain ⟨o,h1,h2,h3⟩ := hasL_spec hh (by simpa using hq)
     have h4 : L.ops[(an - 1).toNat]? = some q := by simpa using hs
     rw [h1] at h4
     injection h4 with h4
     subst h4
     exact ⟨h2,by have := (h.at_ h1).2;simp;omega⟩
 | succ k =>
   obtain ⟨o,ho,hso⟩ := hadL_at' L ops k (by omega)
   have hon := (hat k o ho).2
   rw [rowEnd_take ho]
   have hn1 : 1 ≤ o.n := by omega
   obtain ⟨q,h1,h2,h3⟩ := hasL_spec hso hn1
   refine ⟨s1,by show o.n = _;simp;omega,by omega,fun h0 => by omega,fun q' hq hs => ?_⟩
   rw [show an + ((k + 1 : Nat) : Int) - 1 = o.n - 1 by omega,h1] at hs
   injection hs with hs
   subst hs
   exact ⟨h2,by have := (h.at_ h1).2;omega⟩
theorem part_ok {B : Nat} {L : LV} (h : OkL B L) (p : Nat) : OkL (B + 80) (partL p L) ∧ (partL p L).ops = L.ops.take p ∧ (partL p L).fence = L.fence ∧ (partL p L).settled ≤ p := by
 have hlen := h.len
 have hset := h.settled
 unfold partL
 split
 · rename_i hle
   exact ⟨h.mono (by omega),(List.take_of_length_le hle).symm,rfl,by omega⟩
 · rename_i hle
   refine ⟨⟨rowGo_take h.row p,fun o ho => h.fence o (List.mem_of_mem_take ho),h.fence0,⟨?_,?_⟩,?_,?_,h.quota,h.room⟩,rfl,rfl,?_⟩
   · show 0 ≤ min L.settled (p : Int);omega
   · show min L.settled (p : Int) ≤ ((L.ops.take p).length : Int)
     rw [List.length_take];omega
   · intro o ho
     rcases List.mem_append.1 ho with ho | ho
     · exact h.bare o ho
     · obtain ⟨x,_,rfl⟩ := List.mem_map.1 ho;rfl
   · have := h.lost
     show (L.lost ++ _).length ≤ _
     rw [List.length_append,List.length_map,List.length_drop];omega
   · show min L.settled (p : Int) ≤ p;omega
theorem lastAt_ok {c : CmdL} (hr : rowB c.after c.since c.ops = true) : (lastAt c).1 = c.after + c.ops.length := by
 unfold lastAt
 unfold rowB at hr
 rw [Bool.and_eq_true] at hr
 cases hl : c.ops.getLast? with
 | none =>
   rw [List.getLast?_eq_none_iff] at hl
   simp [hl]
 | some o =>
   rw [List.getLast?_eq_getElem?] at hl
   have hlt := (List.getElem?_eq_some_iff.1 hl).1
   have := (rowGo_at hr.2 _ o hl).2
   simp only
   omega
theorem ship_ok {B : Nat} {L : LV} (h : OkL B L) (c : CmdL) (hr : reignP c.epoch c.site) (hrow : rowB c.after c.since c.ops = true) (hep : ∀ o ∈ c.ops,o.epoch ≤ c.epoch) : OkL (B + 80) (shipL c L).2 := by
 unfold shipL
 split
 · exact h.mono (by omega)
 rename_i hst
 simp only
 have h1 : OkL B { L with fence := c.epoch } := ⟨h.row,fun o ho => by have := h.fence o ho;show o.epoch ≤ c.epoch;omega,by unfold reignP at hr;exact ⟨by show 0 ≤ c.epoch;omega,hr.2.1⟩,h.settled,h.bare,h.lost,h.quota,h.room⟩
 obtain ⟨L1,hL1⟩ : ∃ L1 : LV,{ L with fence := c.epoch } = L1 := ⟨_,rfl⟩
 have hf1 : L1.fence = c.epoch := by rw [← hL1]
 rw [hL1] at h1 ⊢
 clear hst h
 split
 · rename_i hh
   obtain ⟨k,hk⟩ : ∃ k,hadL L1 c.ops = k := ⟨_,rfl⟩
   obtain ⟨j1,j2,j3,j4,j5⟩ := ship_joint h1 hrow hh k (by omega)
   have hkle := hadL_le' L1 c.ops
   have hla := lastAt_ok hrow
   have hset := h1.settled
   rw [hk] at hkle ⊢
   cases hd : c.ops.drop k with
   | nil =>
     have hkl : c.ops.length ≤ k := List.drop_eq_nil_iff.1 hd
     subst hL1
     simp only at *
     exact ⟨h1.row,h1.fence,h1.fence0,⟨by show 0 ≤ max L.settled (lastAt c).1;omega,by show max L.settled (lastAt c).1 ≤ (L.ops.length : Int);omega⟩,h1.bare,Nat.le_trans h1.lost (by omega),h1.quota,h1.room⟩
   | cons o rest =>
     simp only
     split
     · exact h1.mono (by omega)
     rename_i hsite
     have hkl : k < c.ops.length := by
      rcases Nat.lt_or_ge k c.ops.length with h | h
      · exact h
      · rw [List.drop_eq_nil_of_le h] at hd;cases hd
     have hok : c.ops[k]? = some o := by
      have := congrArg (fun l : List OpL => l[0]?) hd
      simpa [List.getElem?_drop] using this
     have hrow2 := hrow
     unfold rowB at hrow2
     rw [Bool.and_eq_true] at hrow2
     have hrd := rowGo_drop hrow2.2 k
     rw [hd] at hrd
     have hon := (rowGo_at hrow2.2 k o hok).2
     obtain ⟨p,hp⟩ : ∃ p : Nat,o.n - 1 = (p : Int) := ⟨(o.n - 1).toNat,by omega⟩
     have hpk : (p : Int) = c.after + k := by omega
     rw [hp,Int.toNat_natCast]
     obtain ⟨h2,h3,h4,h5⟩ := part_ok h1 p
     obtain ⟨PL,hPL⟩ : ∃ PL,partL p L1 = PL := ⟨_,rfl⟩
     rw [hPL] at h2 h3 h4 h5 ⊢
     have hplen : PL.ops.length = p := by rw [h3,List.length_take];omega
     have hdl : (o :: rest).length = c.ops.length - k := by rw [← hd,List.length_drop]
     have hset2 := h2.settled
     refine ⟨?_,?_,h2.fence0,⟨by show 0 ≤ max PL.settled (lastAt c).1;omega,?_⟩,h2.bare,h2.lost,h2.quota,h2.room⟩
     · show rowGo 0 0 (-1) (PL.ops ++ o :: rest) = true
       rw [rowGo_append,h2.row,Bool.true_and]
       unfold rowGo at hrd ⊢
       rw [Bool.and_eq_true,decide_eq_true_iff] at hrd ⊢
       refine ⟨?_,hrd.2⟩
       obtain ⟨n1,n2,n3⟩ := hrd.1
       have he := h2.end_.1
       refine ⟨n1,by omega,?_⟩
       rcases Nat.eq_zero_or_pos p with hp0 | hp0
       · have hz : PL.ops = [] := List.eq_nil_of_length_eq_zero (by omega)
         obtain ⟨j6,j7⟩ := j4 (by omega)
         rw [j6] at n3
         rw [hz]
         show (o.kind = 3 ∧ (0 : Int) < o.epoch) ∨ (o.kind ≠ 3 ∧ o.epoch = 0 ∧ ((-1 : Int) < 0 ∨ o.site = -1))
         rcases n3 with n3 | n3
         · exact .inl n3
         · exact .inr ⟨n3.1,n3.2.1,.inl (by omega)⟩
       · obtain ⟨q,hq⟩ : ∃ q,L1.ops[p - 1]? = some q := ⟨_,List.getElem?_eq_getElem (by omega)⟩
         have hq2 : L1.ops[(c.after + k - 1).toNat]? = some q := by
          rw [show (c.after + k - 1).toNat = p - 1 by omega];exact hq
         obtain ⟨q1,q2⟩ := j5 q (by omega) hq2
         have hre : rowEnd 0 0 (-1) PL.ops = (q.n,q.epoch,q.site) := by
          rw [h3]
          have := rowEnd_take hq 0 0 (-1)
          rw [show p - 1 + 1 = p by omega] at this
          exact this
         rw [hre]
         show (o.kind = 3 ∧ q.epoch < o.epoch) ∨ (o.kind ≠ 3 ∧ o.epoch = q.epoch ∧ (q.site < 0 ∨ o.site = q.site))
         rw [q1]
         rcases n3 with n3 | n3
         · exact .inl n3
         · refine .inr ⟨n3.1,n3.2.1,.inr ?_⟩
           have hs : siteAt o.n L1 = some o.site := Classical.byContradiction fun hne => hsite ⟨n3.1,hne⟩
           unfold siteAt at hs
           rw [show (o.n - 2).toNat = p - 1 by omega,hq] at hs
           injection hs with hs
           exact hs.symm
     · intro x hx
       show x.epoch ≤ PL.fence
       rw [h4,hf1]
       rcases List.mem_append.1 hx with hx | hx
       · have := h2.fence x hx
         rw [h4,hf1] at this
         exact this
       · rw [← hd] at hx
         exact hep x (List.mem_of_mem_drop hx)
     · show max PL.settled (lastAt c).1 ≤ ((PL.ops ++ o :: rest).length : Int)
       rw [List.length_append,hplen,hdl]
       omega
 · exact h1.mono (by omega)
theorem apply_ok {B : Nat} {L : LV} (h : OkL B L) (c : CmdL) : OkL (B + 80) (applyL c L).2 := by
 unfold applyL
 split
 · rename_i hc
   unfold okC at hc
   split
   · rename_i hk
     rw [if_neg (by omega),if_pos hk] at hc
     simp only [Bool.and_eq_true,decide_eq_true_iff] at hc
     exact (do_ok h c (of_decide_eq_true hc.2.2.2) hc.1.2.2.2).mono (by omega)
   · split
     · rename_i hk
       rw [if_neg (by omega),if_neg (by omega),if_neg (by omega),if_pos hk] at hc
       simp only [Bool.and_eq_true,decide_eq_true_iff] at hc
       refine ship_ok h c hc.1.2.2.1 hc.1.2.2.2.2 (fun o ho => ?_)
       have := List.all_eq_true.1 hc.2 o ho
       simpa using this
     · split
       · rename_i hk
         rw [if_neg (by omega),if_neg (by omega),if_neg (by omega),if_neg (by omega),if_pos hk] at hc
         simp only [Bool.and_eq_true,decide_eq_true_iff] at hc
         exact (reign_ok h c hc.2.2.2).mono (by omega)
       · split
         · rename_i hk
           rw [if_neg (by omega),if_neg (by omega),if_neg (by omega),if_neg (by omega),if_neg (by omega),if_pos hk] at hc
           simp only [Bool.and_eq_true,decide_eq_true_iff] at hc
           exact (mark_ok h c hc.2.2.2.2).mono (by omega)
         · exact h.mono (by omega)
 · exact h.mono (by omega)
end
section
open Go.RowKit Go.ChangeShapes Go.WideShapes Go.ChangeAt
set_option maxRecDepth 100000 in
set_option maxHeartbeats 8000000 in
theorem a_apply (c : CmdL) (A Bo : Option Addr) (ca cb : Nat) (SA : Nat → Prop) (B : Nat) (l : Nat) (L : LV) (F : Nat → Prop) (w : World) (h : LAt w l L F) (hok : OkL B L) (hB : B ≤ 800000) (hh : Rp.str.slice.R w SA [.slice A c.op.hashes.length ca] c.op.hashes) (ho : Rp.opl.slice.R w SA [.slice Bo c.ops.length cb] c.ops) (hsb : ∀ k,SA k → k < w.heap.size → ¬ F k)
 (hsz : -9223372036854775808 ≤ c.op.size ∧ c.op.size < 9223372036854775808) (hll : c.op.hashes.length ≤ 1000000) (hol : c.ops.length ≤ 1000000) (hsm : ∀ o ∈ c.ops,o.hashes.length ≤ 1000000) :
 Calls Tryz.prog 12 #[.pointer (some ⟨l,0,none⟩),cmdV c (.slice A c.op.hashes.length ca) (.slice Bo c.ops.length cb)] w fun x w' => x = .returned (doneV (applyL c L).1) ∧ ∃ F',LAt w' l (applyL c L).2 F' ∧ Upd F w w' F' := by
 obtain ⟨⟨⟨p0,p1,p2⟩,LP⟩,hP⟩ : ∃ P,applyL c L = P := ⟨_,rfl⟩
 rw [hP]
 have HP := Lib.hid hP
 have HOK := Lib.hid hok
 have HBB := Lib.hid hB
 have HH := Lib.hid hh
 have HO := Lib.hid ho
 have HSB := Lib.hid hsb
 have hchk := fun w1 (hk : Kp No w w1) => c_checkC c A Bo ca cb w1 SA (Rp.str.slice.keptNo hh hk) (Rp.opl.slice.keptNo ho hk) hsz hll hol hsm
 have HCHK := Lib.hid hchk
 obtain ⟨hn,hhn⟩ : ∃ hn,c.op.hashes.length = hn := ⟨_,rfl⟩
 obtain ⟨on,hon⟩ : ∃ on,c.ops.length = on := ⟨_,rfl⟩
 have HHN := Lib.hid hhn
 have HON := Lib.hid hon
 obtain ⟨K,hK⟩ : ∃ K,okC c = K := ⟨_,rfl⟩
 have HOKC := Lib.hid hK
 have hchk2 := HCHK.out
 rw [hhn,hon,hK] at hchk2
 unfold cmdV at hchk2
 have HCHK := Lib.hid hchk2
 rw [hhn,hon]
 clear hP hok hB hh ho hsb hchk hhn hon hK hchk2 hsz hll hol hsm
 obtain ⟨x,hx⟩ : ∃ x,w.heap.size = x := ⟨_,rfl⟩
 obtain ⟨h1,h2,h3,h4,h5⟩ := begin_ h c (.slice A hn ca) (.slice Bo on cb)
 have hfx : ¬ F x ∧ ¬ F (x + 1) := ⟨fun e => by have := h.lt _ e;omega,fun e => by have := h.lt _ e;omega⟩
 have HFX := Lib.hid hfx
 obtain ⟨wa,hwa⟩ : ∃ wa,(w.alloc (.cells (cmdC c (.slice A hn ca) (.slice Bo on cb)).toArray 39)).alloc (.cells #[.int .i64 0,.int .i64 0,.int .i64 0] 44) = wa := ⟨_,rfl⟩
 rw [hwa] at h1 h2 h3 h4 h5
 rw [hx] at h3 h4 h5
 unfold cmdC at h3 hwa
 have HA := Lib.hid h1
 have HK := Lib.hid h2
 have HC := Lib.hid h3
 have HD := Lib.hid h4
 have HSA := Lib.hid h5
 have HX := Lib.hid hx
 clear h1 h2 h4 h5 h hfx
 unfold cmdV
 obtain ⟨ck,ep,st,op,an,ae,ops,tg⟩ := c
 simp only at *
 have z0 : wa.cell? ⟨x,0,none⟩ = some _ := Blk.cell h3 rfl
 have z1 : wa.cell? ⟨x,1,none⟩ = some _ := Blk.cell h3 rfl
 have z2 : wa.cell? ⟨x,2,none⟩ = some _ := Blk.cell h3 rfl
 have z3 : wa.cell? ⟨x,3,none⟩ = some _ := Blk.cell h3 rfl
 have z4 : wa.cell? ⟨x,4,none⟩ = some _ := Blk.cell h3 rfl
 have z5 : wa.cell? ⟨x,5,none⟩ = some _ := Blk.cell h3 rfl
 have z6 : wa.cell? ⟨x,6,none⟩ = some _ := Blk.cell h3 rfl
 have z7 : wa.cell? ⟨x,7,none⟩ = some _ := Blk.cell h3 rfl
 have z8 : wa.cell? ⟨x,8,none⟩ = some _ := Blk.cell h3 rfl
 have z9 : wa.cell? ⟨x,9,none⟩ = some _ := Blk.cell h3 rfl
 have z10 : wa.cell? ⟨x,10,none⟩ = some _ := Blk.cell h3 rfl
 have z11 : wa.cell? ⟨x,11,none⟩ = some _ := Blk.cell h3 rfl
 have z12 : wa.cell? ⟨x,12,none⟩ = some _ := Blk.cell h3 rfl
 have z13 : wa.cell? ⟨x,13,none⟩ = some _ := Blk.cell h3 rfl
 have z14 : wa.cell? ⟨x,14,none⟩ = some _ := Blk.cell h3 rfl
 have z15 : wa.cell? ⟨x,15,none⟩ = some _ := Blk.cell h3 rfl
 clear h3
 go_enter Tryz.func12,Tryz.ntmps12
 go_wp2_with fail
 clear hwa hx
 refine (HCHK.out wa HK.out).mono ?_
 rintro e w1 ⟨rfl,hk1⟩
 have hc1 := HC.out.kept hk1 (fun x => x)
 have HA1 := Lib.hid (HA.out.keptNo hk1)
 have HD1 := Lib.hid (HD.out.kept hk1 (fun x => x))
 have HK1 := Lib.hid (HK.out.trans' hk1)
 have HS1 : Hid (x + 1 < w1.heap.size) := Lib.hid (by have h1 := HSA.out;have h2 := hk1.size;omega)
 clear hk1 z0 z1 z2 z3 z4 z5 z6 z7 z8 z9 z10 z11 z12 z13 z14 z15 HA HD HK HCHK HSA HC
 have z0 : w1.cell? ⟨x,0,none⟩ = some _ := Blk.cell hc1 rfl
 have z1 : w1.cell? ⟨x,1,none⟩ = some _ := Blk.cell hc1 rfl
 have z2 : w1.cell? ⟨x,2,none⟩ = some _ := Blk.cell hc1 rfl
 have z3 : w1.cell? ⟨x,3,none⟩ = some _ := Blk.cell hc1 rfl
 have z4 : w1.cell? ⟨x,4,none⟩ = some _ := Blk.cell hc1 rfl
 have z5 : w1.cell? ⟨x,5,none⟩ = some _ := Blk.cell hc1 rfl
 have z6 : w1.cell? ⟨x,6,none⟩ = some _ := Blk.cell hc1 rfl
 have z7 : w1.cell? ⟨x,7,none⟩ = some _ := Blk.cell hc1 rfl
 have z8 : w1.cell? ⟨x,8,none⟩ = some _ := Blk.cell hc1 rfl
 have z9 : w1.cell? ⟨x,9,none⟩ = some _ := Blk.cell hc1 rfl
 have z10 : w1.cell? ⟨x,10,none⟩ = some _ := Blk.cell hc1 rfl
 have z11 : w1.cell? ⟨x,11,none⟩ = some _ := Blk.cell hc1 rfl
 have z12 : w1.cell? ⟨x,12,none⟩ = some _ := Blk.cell hc1 rfl
 have z13 : w1.cell? ⟨x,13,none⟩ = some _ := Blk.cell hc1 rfl
 have z14 : w1.cell? ⟨x,14,none⟩ = some _ := Blk.cell hc1 rfl
 have z15 : w1.cell? ⟨x,15,none⟩ = some _ := Blk.cell hc1 rfl
 clear hc1
 have hpp := HP.out
 unfold applyL at hpp
 rw [HOKC.out] at hpp
 rename_i y0 y1 y2 y3 y4 y5 y6
 cases K
 · revert y0
   as_aux_lemma =>
    intro y0
    intros
    rw [if_neg (by simp)] at hpp
    simp only [failD,Prod.mk.injEq] at hpp
    obtain ⟨⟨rfl,rfl,rfl⟩,rfl⟩ := hpp
    clear HP z0 z1 z2 z3 z4 z5 z6 z7 z8 z9 z10 z11 z12 z13 z14 z15
    go_wp2_with fail
    refine (l_failed 3 _).mono ?_
    rintro e w9 ⟨rfl,hk9⟩
    have h9k := HK1.out.trans' hk9
    have h9a := HA1.out.keptNo hk9
    have h9d := HD1.out.kept hk9 (fun x => x)
    have H9K := Lib.hid h9k
    have H9A := Lib.hid h9a
    have H9D := Lib.hid h9d
    have g0 := Blk.fr h9d 0
    have g1 := Blk.fr h9d 1
    have g2 := Blk.fr h9d 2
    have u0 : w9.cell? ⟨x + 1,0,none⟩ = some _ := Blk.cell h9d rfl
    have u1 : w9.cell? ⟨x + 1,1,none⟩ = some _ := Blk.cell h9d rfl
    have u2 : w9.cell? ⟨x + 1,2,none⟩ = some _ := Blk.cell h9d rfl
    clear hk9 h9k h9a h9d
    go_wp2_with fail
    clear g0 g1 g2 u0 u1 u2
    obtain ⟨hkf,hbf⟩ := done_stored H9D.out (.int .i64 3) (.int .i64 0) (.int .i64 0)
    have hwx : w.heap.size = x := HX.out
    have hAf := H9A.out.kept hkf (fun k hk e => HFX.out.2 (e ▸ hk))
    have hKf := H9K.out.trans hkf (fun i hi e => absurd hi (by omega))
    exact bodyPost_ret (results_cell_row rfl _ _ (x + 1) _ _ _ _ rfl hbf Tryz.underlying44 rfl (by kernel_rfl)) rfl ⟨rfl,F,hAf,hKf.any,fun k hk => .inl hk⟩
 rw [if_pos rfl] at hpp
 have hokc := HOKC.out
 unfold okC at hokc
 simp only at hokc hpp
 have HPP := Lib.hid hpp
 have HOC := Lib.hid hokc
 clear hpp hokc HP HOKC
 by_cases k1 : ck = 1
 · revert y0
   as_aux_lemma =>
    intro y0
    intros
    subst k1
    have hpe := HPP.out
    have hoc := HOC.out
    rw [if_pos rfl] at hpe
    rw [if_neg (by decide),if_pos rfl] at hoc
    simp only [Bool.and_eq_true,decide_eq_true_iff] at hoc
    obtain ⟨h1,q1,q2,h4⟩ := hoc
    clear q1 q2
    have h4 : okP (op.placed 1 ep st) := of_decide_eq_true h4
    have h5 : op.kind ≠ 3 := h1.2.2.2
    have HPE := Lib.hid hpe
    have H4 := Lib.hid h4
    have H5 := Lib.hid h5
    clear hpe h1 h4 h5 HPP HOC
    have hcall := a_do ⟨1,ep,st,op,an,ae,ops,tg⟩ A ca (.slice Bo ops.length cb) SA B l L F w1 HA1.out HOK.out (Rp.str.slice.keptNo HH.out HK1.out) H4.out H5.out
    rw [HHN.out,HON.out,HPE.out] at hcall
    unfold cmdV at hcall
    simp only at hcall
    have HCALL := Lib.hid hcall
    clear hcall
    go_wp2_with fail
    refine HCALL.out.mono ?_
    rintro e w9 ⟨rfl,F',h9a,h9u⟩
    have h9d := HD1.out.kept h9u.kp (fun e => HFX.out.2 e)
    have H9A := Lib.hid h9a
    have H9U := Lib.hid h9u
    have H9D := Lib.hid h9d
    have g0 := Blk.fr h9d 0
    have g1 := Blk.fr h9d 1
    have g2 := Blk.fr h9d 2
    have u0 : w9.cell? ⟨x + 1,0,none⟩ = some _ := Blk.cell h9d rfl
    have u1 : w9.cell? ⟨x + 1,1,none⟩ = some _ := Blk.cell h9d rfl
    have u2 : w9.cell? ⟨x + 1,2,none⟩ = some _ := Blk.cell h9d rfl
    unfold doneV
    clear h9a h9u h9d z0 z1 z2 z3 z4 z5 z6 z7 z8 z9 z10 z11 z12 z13 z14 z15 HCALL
    go_wp2_with fail
    clear g0 g1 g2 u0 u1 u2
    obtain ⟨hkf,hbf⟩ := done_stored H9D.out (.int .i64 p0) (.int .i64 p1) (.int .i64 p2)
    have hwx : w.heap.size = x := HX.out
    have hnf : ∀ k,F' k → k ≠ x + 1 := fun k hk e => by
     rcases H9U.out.foot k hk with h | h
     · exact HFX.out.2 (e ▸ h)
     · have := HS1.out;omega
    have hAf := H9A.out.kept hkf (fun k hk e => hnf k hk e)
    have hKf := ((HK1.out.any).trans H9U.out.kp (fun _ _ e => e)).trans hkf (fun i hi e => absurd hi (by omega))
    have hF' : ∀ k,F' k → F k ∨ w.heap.size ≤ k := fun k hk => by
     rcases H9U.out.foot k hk with h | h
     · exact .inl h
     · exact .inr (Nat.le_trans HK1.out.size h)
    exact bodyPost_ret (results_cell_row rfl _ _ (x + 1) _ _ _ _ rfl hbf Tryz.underlying44 rfl (by kernel_rfl)) rfl ⟨rfl,F',hAf,hKf,hF'⟩
 have k1b : (ck == 1) = false := beq_eq_false_iff_ne.2 k1
 by_cases k3 : ck = 3
 · revert y0
   as_aux_lemma =>
    intro y0
    intros
    subst k3
    have hpe := HPP.out
    have hoc := HOC.out
    rw [if_neg (by decide),if_pos rfl] at hpe
    rw [if_neg (by decide),if_neg (by decide),if_neg (by decide),if_pos rfl] at hoc
    simp only [Bool.and_eq_true,decide_eq_true_iff] at hoc
    obtain ⟨⟨q1,q2,h1,h2,h4⟩,q3⟩ := hoc
    clear q1 q2 q3
    have HPE := Lib.hid hpe
    have H1 := Lib.hid h1
    have H2 := Lib.hid h2
    have H4 := Lib.hid h4
    have HSB1 : Hid (∀ k,(SA k ∧ k < w.heap.size) → k < w1.heap.size → ¬ F k) := Lib.hid (fun k hk _ => HSB.out k hk.1 hk.2)
    have HO1 : Hid (Rp.opl.slice.R w1 (fun k => SA k ∧ k < w.heap.size) [.slice Bo ops.length cb] ops) := Lib.hid (Rp.opl.slice.keptNo (Rp.opl.slice.bnd HO.out) HK1.out)
    clear hpe h1 h2 h4 HPP HOC k1 k1b
    have hcall := a_ship ⟨3,ep,st,op,an,ae,ops,tg⟩ (.slice A op.hashes.length ca) Bo cb _ B l L F w1 HA1.out HOK.out HBB.out HO1.out HSB1.out H1.out H2.out H4.out
    rw [HHN.out,HON.out,HPE.out] at hcall
    unfold cmdV at hcall
    simp only at hcall
    have HCALL := Lib.hid hcall
    clear hcall
    go_wp2_with fail
    refine HCALL.out.mono ?_
    rintro e w9 ⟨rfl,F',h9a,h9u⟩
    have h9d := HD1.out.kept h9u.kp (fun e => HFX.out.2 e)
    have H9A := Lib.hid h9a
    have H9U := Lib.hid h9u
    have H9D := Lib.hid h9d
    have g0 := Blk.fr h9d 0
    have g1 := Blk.fr h9d 1
    have g2 := Blk.fr h9d 2
    have u0 : w9.cell? ⟨x + 1,0,none⟩ = some _ := Blk.cell h9d rfl
    have u1 : w9.cell? ⟨x + 1,1,none⟩ = some _ := Blk.cell h9d rfl
    have u2 : w9.cell? ⟨x + 1,2,none⟩ = some _ := Blk.cell h9d rfl
    unfold doneV
    clear h9a h9u h9d z0 z1 z2 z3 z4 z5 z6 z7 z8 z9 z10 z11 z12 z13 z14 z15 HCALL
    go_wp2_with fail
    clear g0 g1 g2 u0 u1 u2
    obtain ⟨hkf,hbf⟩ := done_stored H9D.out (.int .i64 p0) (.int .i64 p1) (.int .i64 p2)
    have hwx : w.heap.size = x := HX.out
    have hnf : ∀ k,F' k → k ≠ x + 1 := fun k hk e => by
     rcases H9U.out.foot k hk with h | h
     · exact HFX.out.2 (e ▸ h)
     · have := HS1.out;omega
    have hAf := H9A.out.kept hkf (fun k hk e => hnf k hk e)
    have hKf := ((HK1.out.any).trans H9U.out.kp (fun _ _ e => e)).trans hkf (fun i hi e => absurd hi (by omega))
    have hF' : ∀ k,F' k → F k ∨ w.heap.size ≤ k := fun k hk => by
     rcases H9U.out.foot k hk with h | h
     · exact .inl h
     · exact .inr (Nat.le_trans HK1.out.size h)
    exact bodyPost_ret (results_cell_row rfl _ _ (x + 1) _ _ _ _ rfl hbf Tryz.underlying44 rfl (by kernel_rfl)) rfl ⟨rfl,F',hAf,hKf,hF'⟩
 have k3b : (ck == 3) = false := beq_eq_false_iff_ne.2 k3
 by_cases k4 : ck = 4
 · revert y0
   as_aux_lemma =>
    intro y0
    intros
    subst k4
    have hpe := HPP.out
    have hoc := HOC.out
    rw [if_neg (by decide),if_neg (by decide),if_pos rfl] at hpe
    rw [if_neg (by decide),if_neg (by decide),if_neg (by decide),if_neg (by decide),if_pos rfl] at hoc
    simp only [Bool.and_eq_true,decide_eq_true_iff] at hoc
    obtain ⟨q1,q2,q3,h1⟩ := hoc
    clear q1 q2 q3
    have HPE := Lib.hid hpe
    have H1 := Lib.hid h1
    clear hpe h1 HPP HOC k1 k1b k3 k3b
    have hcall := a_reign ⟨4,ep,st,op,an,ae,ops,tg⟩ (.slice A op.hashes.length ca) (.slice Bo ops.length cb) B l L F w1 HA1.out HOK.out H1.out
    rw [HHN.out,HON.out,HPE.out] at hcall
    unfold cmdV at hcall
    simp only at hcall
    have HCALL := Lib.hid hcall
    clear hcall
    go_wp2_with fail
    refine HCALL.out.mono ?_
    rintro e w9 ⟨rfl,F',h9a,h9u⟩
    have h9d := HD1.out.kept h9u.kp (fun e => HFX.out.2 e)
    have H9A := Lib.hid h9a
    have H9U := Lib.hid h9u
    have H9D := Lib.hid h9d
    have g0 := Blk.fr h9d 0
    have g1 := Blk.fr h9d 1
    have g2 := Blk.fr h9d 2
    have u0 : w9.cell? ⟨x + 1,0,none⟩ = some _ := Blk.cell h9d rfl
    have u1 : w9.cell? ⟨x + 1,1,none⟩ = some _ := Blk.cell h9d rfl
    have u2 : w9.cell? ⟨x + 1,2,none⟩ = some _ := Blk.cell h9d rfl
    unfold doneV
    clear h9a h9u h9d z0 z1 z2 z3 z4 z5 z6 z7 z8 z9 z10 z11 z12 z13 z14 z15 HCALL
    go_wp2_with fail
    clear g0 g1 g2 u0 u1 u2
    obtain ⟨hkf,hbf⟩ := done_stored H9D.out (.int .i64 p0) (.int .i64 p1) (.int .i64 p2)
    have hwx : w.heap.size = x := HX.out
    have hnf : ∀ k,F' k → k ≠ x + 1 := fun k hk e => by
     rcases H9U.out.foot k hk with h | h
     · exact HFX.out.2 (e ▸ h)
     · have := HS1.out;omega
    have hAf := H9A.out.kept hkf (fun k hk e => hnf k hk e)
    have hKf := ((HK1.out.any).trans H9U.out.kp (fun _ _ e => e)).trans hkf (fun i hi e => absurd hi (by omega))
    have hF' : ∀ k,F' k → F k ∨ w.heap.size ≤ k := fun k hk => by
     rcases H9U.out.foot k hk with h | h
     · exact .inl h
     · exact .inr (Nat.le_trans HK1.out.size h)
    exact bodyPost_ret (results_cell_row rfl _ _ (x + 1) _ _ _ _ rfl hbf Tryz.underlying44 rfl (by kernel_rfl)) rfl ⟨rfl,F',hAf,hKf,hF'⟩
 have k4b : (ck == 4) = false := beq_eq_false_iff_ne.2 k4
 by_cases k5 : ck = 5
 · revert y0
   as_aux_lemma =>
    intro y0
    intros
    subst k5
    have hpe := HPP.out
    have hoc := HOC.out
    rw [if_neg (by decide),if_neg (by decide),if_neg (by decide),if_pos rfl] at hpe
    rw [if_neg (by decide),if_neg (by decide),if_neg (by decide),if_neg (by decide),if_neg (by decide),if_pos rfl] at hoc
    simp only [Bool.and_eq_true,decide_eq_true_iff] at hoc
    obtain ⟨q1,q2,q3,q4,h1⟩ := hoc
    clear q1 q2 q3 q4
    have HPE := Lib.hid hpe
    have H1 := Lib.hid h1
    clear hpe h1 HPP HOC k1 k1b k3 k3b k4 k4b
    have hcall := a_mark ⟨5,ep,st,op,an,ae,ops,tg⟩ (.slice A op.hashes.length ca) (.slice Bo ops.length cb) B l L F w1 HA1.out HOK.out H1.out
    rw [HHN.out,HON.out,HPE.out] at hcall
    unfold cmdV at hcall
    simp only at hcall
    have HCALL := Lib.hid hcall
    clear hcall
    go_wp2_with fail
    refine HCALL.out.mono ?_
    rintro e w9 ⟨rfl,F',h9a,h9u⟩
    have h9d := HD1.out.kept h9u.kp (fun e => HFX.out.2 e)
    have H9A := Lib.hid h9a
    have H9U := Lib.hid h9u
    have H9D := Lib.hid h9d
    have g0 := Blk.fr h9d 0
    have g1 := Blk.fr h9d 1
    have g2 := Blk.fr h9d 2
    have u0 : w9.cell? ⟨x + 1,0,none⟩ = some _ := Blk.cell h9d rfl
    have u1 : w9.cell? ⟨x + 1,1,none⟩ = some _ := Blk.cell h9d rfl
    have u2 : w9.cell? ⟨x + 1,2,none⟩ = some _ := Blk.cell h9d rfl
    unfold doneV
    clear h9a h9u h9d z0 z1 z2 z3 z4 z5 z6 z7 z8 z9 z10 z11 z12 z13 z14 z15 HCALL
    go_wp2_with fail
    clear g0 g1 g2 u0 u1 u2
    obtain ⟨hkf,hbf⟩ := done_stored H9D.out (.int .i64 p0) (.int .i64 p1) (.int .i64 p2)
    have hwx : w.heap.size = x := HX.out
    have hnf : ∀ k,F' k → k ≠ x + 1 := fun k hk e => by
     rcases H9U.out.foot k hk with h | h
     · exact HFX.out.2 (e ▸ h)
     · have := HS1.out;omega
    have hAf := H9A.out.kept hkf (fun k hk e => hnf k hk e)
    have hKf := ((HK1.out.any).trans H9U.out.kp (fun _ _ e => e)).trans hkf (fun i hi e => absurd hi (by omega))
    have hF' : ∀ k,F' k → F k ∨ w.heap.size ≤ k := fun k hk => by
     rcases H9U.out.foot k hk with h | h
     · exact .inl h
     · exact .inr (Nat.le_trans HK1.out.size h)
    exact bodyPost_ret (results_cell_row rfl _ _ (x + 1) _ _ _ _ rfl hbf Tryz.underlying44 rfl (by kernel_rfl)) rfl ⟨rfl,F',hAf,hKf,hF'⟩
 have k5b : (ck == 5) = false := beq_eq_false_iff_ne.2 k5
 revert y0
 as_aux_lemma =>
  intro y0
  intros
  have hpe := HPP.out
  rw [if_neg k1,if_neg k3,if_neg k4,if_neg k5] at hpe
  simp only [Prod.mk.injEq] at hpe
  obtain ⟨⟨rfl,hlp⟩,rfl⟩ := hpe
  have hlast := a_last l L F w1 HA1.out (by have := HOK.out.len;omega)
  rw [hlp] at hlast
  have HLAST := Lib.hid hlast
  clear hlp hlast HPP HOC k1 k3 k4 k5
  go_wp2_with fail
  refine HLAST.out.mono ?_
  rintro e w9 ⟨rfl,hk9⟩
  have h9k := HK1.out.trans' hk9
  have h9a := HA1.out.keptNo hk9
  have h9d := HD1.out.kept hk9 (fun x => x)
  have H9K := Lib.hid h9k
  have H9A := Lib.hid h9a
  have H9D := Lib.hid h9d
  have g0 := Blk.fr h9d 0
  have g1 := Blk.fr h9d 1
  have g2 := Blk.fr h9d 2
  have u0 : w9.cell? ⟨x + 1,0,none⟩ = some _ := Blk.cell h9d rfl
  have u1 : w9.cell? ⟨x + 1,1,none⟩ = some _ := Blk.cell h9d rfl
  have u2 : w9.cell? ⟨x + 1,2,none⟩ = some _ := Blk.cell h9d rfl
  clear hk9 h9k h9a h9d z0 z1 z2 z3 z4 z5 z6 z7 z8 z9 z10 z11 z12 z13 z14 z15 HLAST
  go_wp2_with fail
  clear g0 g1 g2 u0 u1 u2
  obtain ⟨hkf,hbf⟩ := done_stored H9D.out (.int .i64 0) (.int .i64 p1) (.int .i64 p2)
  have hwx : w.heap.size = x := HX.out
  have hAf := H9A.out.kept hkf (fun k hk e => HFX.out.2 (e ▸ hk))
  have hKf := H9K.out.trans hkf (fun i hi e => absurd hi (by omega))
  exact bodyPost_ret (results_cell_row rfl _ _ (x + 1) _ _ _ _ rfl hbf Tryz.underlying44 rfl (by kernel_rfl)) rfl ⟨rfl,F,hAf,hKf.any,fun k hk => .inl hk⟩
end
end Go.Proofs.YtjlbacfedfkilaaGreat
