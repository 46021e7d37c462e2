/-
  Put together: LedL, Take, LedM, Put.
-/
import Derived.Test.YtjlbacfedfkilaaGreatGE
import Derived.Test.YtjlbacfedfkilaaGreatDeed7
namespace Go.Proofs.YtjlbacfedfkilaaGreat
section
open Go.RowKit Go.ChangeShapes Go.WideShapes Go.ChangeAt
structure LV where
 ops : List OpL
 lost : List OpL
 fence : Int
 settled : Int
 quota : Int
 room : Int
def LV.fold (L : LV) : FV := FV.fresh.take L.ops
abbrev Done3 := Int × Int × Int
def failD (e : Int) : Done3 := (e,0,0)
def doneV (d : Done3) : Value := .agg #[.int .i64 d.1,.int .i64 d.2.1,.int .i64 d.2.2]
def newL (quota room : Int) : LV := ⟨[],[],0,0,quota,room⟩
def putL (o : OpL) (e s : Int) (L : LV) : Done3 × LV := ((0,L.ops.length + 1,e),{ L with ops := L.ops ++ [o.placed (L.ops.length + 1) e s] })
def reignOp : OpL := ⟨0,0,3,0,0,0,ByteArray.empty,0,[]⟩
def reignL (c : CmdL) (L : LV) : Done3 × LV :=
 if c.epoch ≤ L.fence then (failD 120,L) else if 80 ≤ (L.ops.length : Int) then (failD 125,L) else putL reignOp c.epoch c.site { L with fence := c.epoch }
def holdsL (e s : Int) (L : LV) : Prop := e = L.fence ∧ L.fold.hE = e ∧ L.fold.hS = s
instance (e s : Int) (L : LV) : Decidable (holdsL e s L) := by unfold holdsL;exact inferInstance
def liveL (n : ByteArray) (L : LV) : Bool := (mget n L.fold.live).isSome
def doNew (c : CmdL) (L : LV) : Done3 × LV :=
 if c.op.kind = 1 ∧ liveL c.op.name L = true then (failD 122,L)
 else if c.op.kind = 1 ∧ L.quota < L.fold.used + c.op.size then (failD 102,L)
 else if c.op.kind = 2 ∧ liveL c.op.name L = false then (failD 123,L)
 else if L.room ≤ (L.ops.length : Int) then (failD 125,L)
 else putL c.op c.epoch c.site L
def doL (c : CmdL) (L : LV) : Done3 × LV :=
 if holdsL c.epoch c.site L then
  match mget c.op.client L.fold.lastOf with
  | some was => if c.op.seq ≤ was.seq then (if c.op.seq < was.seq then failD 124 else (0,was.n,was.epoch),L) else doNew c L
  | none => doNew c L
 else (failD 120,L)
def epochAt (n : Int) (L : LV) (e : Int) : Bool := match L.ops[(n - 1).toNat]? with
 | some o => o.epoch == e
 | none => false
def hasL (n e : Int) (L : LV) : Bool := (n == 0) || (decide (n ≤ (L.ops.length : Int)) && epochAt n L e)
def markL (c : CmdL) (L : LV) : Done3 × LV :=
 if holdsL c.epoch c.site L then
  if hasL c.after c.since L = true then ((0,c.after,c.since),{ L with settled := max L.settled c.after }) else (failD 121,L)
 else (failD 120,L)
def OpL.stripped (o : OpL) : OpL := { o with hashes := [] }
def partL (n : Nat) (L : LV) : LV :=
 if L.ops.length ≤ n then L else { L with lost := L.lost ++ (L.ops.drop n).map OpL.stripped,settled := min L.settled n,ops := L.ops.take n }
def hadL (L : LV) : List OpL → Nat
 | [] => 0
 | o :: t => if hasL o.n o.epoch L = true then hadL L t + 1 else 0
def lastAt (c : CmdL) : Int × Int := match c.ops.getLast? with
 | some o => (o.n,o.epoch)
 | none => (c.after,c.since)
def siteAt (n : Int) (L : LV) : Option Int := (L.ops[(n - 2).toNat]?).map (·.site)
def shipL (c : CmdL) (L : LV) : Done3 × LV :=
 if c.epoch < L.fence ∨ (c.epoch = L.fold.hE ∧ c.site ≠ L.fold.hS) then (failD 120,L)
 else
  let L1 := { L with fence := c.epoch }
  if hasL c.after c.since L1 = true then
   match c.ops.drop (hadL L1 c.ops) with
   | [] => ((0,lastAt c),{ L1 with settled := max L1.settled (lastAt c).1 })
   | o :: rest =>
     if o.kind ≠ 3 ∧ siteAt o.n L1 ≠ some o.site then (failD 121,L1)
     else
      let L2 := partL (o.n - 1).toNat L1
      ((0,lastAt c),{ L2 with ops := L2.ops ++ o :: rest,settled := max L2.settled (lastAt c).1 })
  else (failD 121,L1)
def lastL (L : LV) : Int × Int := match L.ops.getLast? with
 | some o => (o.n,o.epoch)
 | none => (0,0)
def applyL (c : CmdL) (L : LV) : Done3 × LV :=
 if okC c = true then
  if c.kind = 1 then doL c L else if c.kind = 3 then shipL c L else if c.kind = 4 then reignL c L else if c.kind = 5 then markL c L else ((0,lastL L),L)
 else (failD 3,L)
structure OkL (B : Nat) (L : LV) : Prop where
 row : rowGo 0 0 (-1) L.ops = true
 fence : ∀ o ∈ L.ops,o.epoch ≤ L.fence
 fence0 : 0 ≤ L.fence ∧ L.fence ≤ 16
 settled : 0 ≤ L.settled ∧ L.settled ≤ L.ops.length
 bare : ∀ o ∈ L.lost,o.hashes = []
 lost : L.lost.length ≤ B
 quota : 1 ≤ L.quota ∧ L.quota ≤ 65536
 room : 1 ≤ L.room ∧ L.room ≤ 64
theorem rowGo_at : ∀ {l : List OpL} {n e s : Int},rowGo n e s l = true → ∀ (i : Nat) o,l[i]? = some o → okP o ∧ o.n = n + 1 + i
 | [],_,_,_,_,i,o,h => by simp at h
 | o1 :: t,n,e,s,h,0,o,ho => by
   unfold rowGo at h
   rw [Bool.and_eq_true,decide_eq_true_iff] at h
   simp only [List.getElem?_cons_zero,Option.some.injEq] at ho
   subst ho
   exact ⟨h.1.1,by have := h.1.2.1;omega⟩
 | o1 :: t,n,e,s,h,i + 1,o,ho => by
   unfold rowGo at h
   rw [Bool.and_eq_true,decide_eq_true_iff] at h
   rw [List.getElem?_cons_succ] at ho
   obtain ⟨h1,h2⟩ := rowGo_at h.2 i o ho
   have := h.1.2.1
   exact ⟨h1,by omega⟩
theorem okP.size {o : OpL} (h : okP o) : 0 ≤ o.size ∧ o.size ≤ 512 := by
 rcases h.2 with ⟨_,_,h⟩ | ⟨_,_,h⟩ | ⟨_,h⟩
 · unfold okSheet at h
   rw [Bool.and_eq_true,decide_eq_true_iff] at h
   omega
 · have := h.1;omega
 · have := h.2.2.2.1;omega
theorem okP.hashes {o : OpL} (h : okP o) : o.hashes.length ≤ 8 := by
 rcases h.2 with ⟨_,_,h⟩ | ⟨_,_,h⟩ | ⟨_,h⟩
 · unfold okSheet at h
   rw [Bool.and_eq_true,decide_eq_true_iff] at h
   have := cnt_bounds o.size h.1.1 h.1.2.1
   omega
 · have := h.2;omega
 · have := h.2.2.2.2;omega
namespace OkL
variable {B : Nat} {L : LV}
theorem at_ (h : OkL B L) {i : Nat} {o : OpL} (ho : L.ops[i]? = some o) : okP o ∧ o.n = i + 1 := by
 obtain ⟨h1,h2⟩ := rowGo_at h.row i o ho
 exact ⟨h1,by omega⟩
theorem okOf (h : OkL B L) {o : OpL} (ho : o ∈ L.ops) : okP o := by
 obtain ⟨i,hi⟩ := List.getElem?_of_mem ho
 exact (h.at_ hi).1
theorem len (h : OkL B L) : L.ops.length ≤ 80 := by
 rcases Nat.eq_zero_or_pos L.ops.length with h0 | h0
 · omega
 · obtain ⟨h1,h2⟩ := h.at_ (i := L.ops.length - 1) (List.getElem?_eq_getElem (by omega))
   have := h1.1.2.1
   omega
theorem small (h : OkL B L) : ∀ o ∈ L.ops,o.kind = 1 → Small o.size := fun o ho _ => by
 have := (h.okOf ho).size
 unfold Small
 omega
theorem foldOk (h : OkL B L) : L.fold.Ok L.ops.length := by
 have := FV.fresh_ok.take L.ops h.small
 rw [Nat.zero_add] at this
 exact this
theorem hashes (h : OkL B L) : ∀ o ∈ L.ops,o.hashes.length ≤ 1000000 := fun o ho => by
 have := (h.okOf ho).hashes
 omega
theorem hashesLost (h : OkL B L) : ∀ o ∈ L.lost,o.hashes.length ≤ 1000000 := fun o ho => by
 rw [h.bare o ho];simp
end OkL
end
section
open Go.RowKit Go.ChangeShapes Go.WideShapes Go.ChangeAt
theorem takeC {α : Type} {l : List α} {i : Nat} {a : α} (h : l[i]? = some a) : l.take (i + 1) = l.take i ++ [a] := by
 rw [List.take_add_one,h];rfl
set_option maxRecDepth 100000 in
set_option maxHeartbeats 2000000 in
theorem c_take (ops : List OpL) (A : Option Addr) (c : Nat) (l : Nat) (rest : List Value) (b1 b2 : Nat) (S : Nat → Prop) (f : FV) (n base : Nat) (w : World) (hf : FAt w l rest b1 b2 S f) (hok : f.Ok n) (hown : Own Rp.opl w S base 36 (.slice A ops.length c) ops)
 (hsm : ∀ o ∈ ops,o.kind = 1 → Small o.size) (hn : n + ops.length ≤ 1000000) :
 Calls Tryz.prog 98 #[.pointer (some ⟨l,0,none⟩),.slice A ops.length c] w fun x w' => x = .returned (.tuple #[]) ∧ FAt w' l rest b1 b2 S (f.take ops) ∧ Own Rp.opl w' S base 36 (.slice A ops.length c) ops ∧ Kp (T3 l b1 b2) w w' := by
 have HF := Lib.hid hf
 have HOK := Lib.hid hok
 have HO := Lib.hid hown
 have HSM := Lib.hid hsm
 have hlw : l < w.heap.size := Blk.lt hf.blk
 have HLW := Lib.hid hlw
 clear hf hok hown hsm hlw
 have hol : ops.length ≤ 9223372036854775807 := by omega
 go_enter Tryz.func98,Tryz.ntmps98
 go_wp2_with fail
 go_loopw [8] (fun iv wr => ∃ i : Nat,i ≤ ops.length ∧ iv = .int .i64 (i : Int) ∧ Hid (FAt wr l rest b1 b2 S (f.take (ops.take i))) ∧ Hid (Own Rp.opl wr S base 36 (.slice A ops.length c) ops) ∧ Hid (Kp (T3 l b1 b2) w wr)) (fun iv _ => ops.length - (intOf iv).toNat)
 case atStart => exact ⟨0,Nat.zero_le _,rfl,HF,HO,Lib.hid (Kp.refl _ _)⟩
 case round =>
  clear HF HO
  obtain ⟨i,hi,rfl,HF,HO,HK⟩ := hrel
  by_cases hlt : i < ops.length
  · have hli : (i : Int) < (ops.length : Int) := by omega
    obtain ⟨o,ho⟩ : ∃ o,ops[i]? = some o := ⟨_,List.getElem?_eq_getElem hlt⟩
    obtain ⟨g,A',c',rfl,_,⟨cs,hcs⟩,hcell,hfr,hnum,hrd⟩ := Own.at_opl HO.out ho
    have z0 : wr.cell? ⟨g,i * 9,none⟩ = some _ := hcell 0 _ rfl
    have z1 : wr.cell? ⟨g,i * 9 + 1,none⟩ = some _ := hcell 1 _ rfl
    have z2 : wr.cell? ⟨g,i * 9 + 2,none⟩ = some _ := hcell 2 _ rfl
    have z3 : wr.cell? ⟨g,i * 9 + 3,none⟩ = some _ := hcell 3 _ rfl
    have z4 : wr.cell? ⟨g,i * 9 + 4,none⟩ = some _ := hcell 4 _ rfl
    have z5 : wr.cell? ⟨g,i * 9 + 5,none⟩ = some _ := hcell 5 _ rfl
    have z6 : wr.cell? ⟨g,i * 9 + 6,none⟩ = some _ := hcell 6 _ rfl
    have z7 : wr.cell? ⟨g,i * 9 + 7,none⟩ = some _ := hcell 7 _ rfl
    have z8 : wr.cell? ⟨g,i * 9 + 8,none⟩ = some _ := hcell 8 _ rfl
    have hgw : Hid (g ≠ l ∧ g ≠ b1 ∧ g ≠ b2) := Lib.hid (by
     have hgb : Blk wr g 36 cs.toList := by unfold Blk;rw [hcs]
     obtain ⟨_,_,e1⟩ := HF.out.live.block
     obtain ⟨_,_,e2⟩ := HF.out.last.block
     refine ⟨?_,Blk.ne_map hgb e1,Blk.ne_map hgb e2⟩
     rintro rfl
     have h3 := HF.out.blk
     unfold Blk at h3 hgb
     rw [h3] at hgb
     injection hgb with hgb
     injection hgb with _ hgb
     exact absurd hgb (by decide))
    have hfn : f.take (ops.take (i + 1)) = (f.take (ops.take i)).take1 o := by rw [takeC ho];exact FV.take_snoc _ _ _
    have hoki : (f.take (ops.take i)).Ok (n + i) := by
     have := HOK.out.take (ops.take i) (fun x hx => HSM.out x (List.mem_of_mem_take hx))
     rw [List.length_take,Nat.min_eq_left hi] at this
     exact this
    have hso : o.kind = 1 → Small o.size := HSM.out o (List.mem_of_getElem? ho)
    obtain ⟨F,hF⟩ : ∃ F,f.take (ops.take i) = F := ⟨_,rfl⟩
    rw [hF] at HF hfn hoki
    have HFN := Lib.hid hfn
    have HOI := Lib.hid hoki
    have HSO := Lib.hid hso
    have HNUM := Lib.hid hnum
    have HRD := Lib.hid hrd
    have hgl : g < wr.heap.size := (Array.getElem?_eq_some_iff.1 hcs).1
    clear ho hcell hfr hcs hnum hrd hfn hoki hso hF
    obtain ⟨on,oe,ok,os,oc,oq,onm,osz,ohs⟩ := o
    simp only at *
    go_upto_region 3 with fail
    obtain ⟨x,hx⟩ : ∃ x,wr.heap.size = x := ⟨_,rfl⟩
    obtain ⟨wa,hwa⟩ : ∃ wa,wr.alloc (.cells #[.int .i64 on,.int .i64 oe,.int .i64 ok,.int .i64 os,.int .i64 oc,.int .i64 oq,.string onm,.int .i64 osz,.slice A' ohs.length c'] 36) = wa := ⟨_,rfl⟩
    have hka : Kp No wr wa := by rw [← hwa];exact (Kp.refl _ _).alloc _
    have hba : Blk wa x 36 [.int .i64 on,.int .i64 oe,.int .i64 ok,.int .i64 os,.int .i64 oc,.int .i64 oq,.string onm,.int .i64 osz,.slice A' ohs.length c'] := by rw [← hwa,← hx];exact Blk.new wr _ _
    have hlx : l ≠ x := by have := Blk.lt HF.out.blk;omega
    have h1x : b1 ≠ x := by have := HF.out.live.lt;omega
    have h2x : b2 ≠ x := by have := HF.out.last.lt;omega
    have HF2 := Lib.hid (HF.out.keptNo hka)
    have HO2 := Lib.hid (HO.out.keptNo hka)
    have HK2 := Lib.hid (HK.out.trans hka (fun _ _ h => h.elim))
    have HR2 := Lib.hid (Rp.str.slice.keptNo HRD.out hka)
    have HX := Lib.hid hba
    have HNX : Hid (l ≠ x ∧ b1 ≠ x ∧ b2 ≠ x) := Lib.hid ⟨hlx,h1x,h2x⟩
    have hwx : w.heap.size ≤ x := by rw [← hx];exact HK.out.size
    have HWX := Lib.hid hwx
    rw [hwa,hx]
    clear z0 z1 z2 z3 z4 z5 z6 z7 z8 HF HO HK HRD hwa hx hka h1x h2x hwx hgl
    have y0 : wa.cell? ⟨x,0,none⟩ = some _ := Blk.cell hba rfl
    have y1 : wa.cell? ⟨x,1,none⟩ = some _ := Blk.cell hba rfl
    have y2 : wa.cell? ⟨x,2,none⟩ = some _ := Blk.cell hba rfl
    have y3 : wa.cell? ⟨x,3,none⟩ = some _ := Blk.cell hba rfl
    have y4 : wa.cell? ⟨x,4,none⟩ = some _ := Blk.cell hba rfl
    have y5 : wa.cell? ⟨x,5,none⟩ = some _ := Blk.cell hba rfl
    have y6 : wa.cell? ⟨x,6,none⟩ = some _ := Blk.cell hba rfl
    have y7 : wa.cell? ⟨x,7,none⟩ = some _ := Blk.cell hba rfl
    have y8 : wa.cell? ⟨x,8,none⟩ = some _ := Blk.cell hba rfl
    clear hba
    have k0 : wa.cell? ⟨l,0,none⟩ = some (.map (some b1)) := Blk.cell HF2.out.blk rfl
    have k1 : wa.cell? ⟨l,1,none⟩ = some (.int .i64 F.used) := Blk.cell HF2.out.blk rfl
    have k2 : wa.cell? ⟨l,2,none⟩ = some (.map (some b2)) := Blk.cell HF2.out.blk rfl
    have k3 : wa.cell? ⟨l,3,none⟩ = some (.int .i64 F.hE) := Blk.cell HF2.out.blk rfl
    have k4 : wa.cell? ⟨l,4,none⟩ = some (.int .i64 F.hS) := Blk.cell HF2.out.blk rfl
    have f1 := Blk.fr HF2.out.blk 1
    have f3 := Blk.fr HF2.out.blk 3
    have f4 := Blk.fr HF2.out.blk 4
    by_cases hk3 : ok = 3
    · subst hk3
      have HF3 : Hid (FAt ((wa.setCell ⟨l,3,none⟩ (.int .i64 oe)).setCell ⟨l,4,none⟩ (.int .i64 os)) l rest b1 b2 S (f.take (ops.take (i + 1)))) := Lib.hid (by
       rw [HFN.out]
       unfold FV.take1
       rw [if_pos rfl]
       exact HF2.out.reign oe os)
      have hks : Kp (· = l) wa ((wa.setCell ⟨l,3,none⟩ (.int .i64 oe)).setCell ⟨l,4,none⟩ (.int .i64 os)) := ((Kp.refl (· = l) wa).setCell (p := ⟨l,3,none⟩) (fun _ => rfl) _).setCell (p := ⟨l,4,none⟩) (fun _ => rfl) _
      have HO3 := Lib.hid (HO2.out.kept hks (fun k hk _ e => HF2.out.s0 (e ▸ hk)) (fun k hk e => by
       have : g = k := by simpa [Value.ownBlock] using hk
       exact hgw.out.1 (this.trans e)))
      have HK3 := Lib.hid (HK2.out.trans hks (fun _ _ e => .inl e))
      clear hks
      go_wp2_with fail
      go_roundw
      case rel => exact ⟨i + 1,by omega,by go_num,HF3,HO3,HK3⟩
      case measure => simp [intOf];omega
    · have k3b : (ok == 3) = false := beq_eq_false_iff_ne.2 hk3
      have hks : Kp No wa wa.drew := (Kp.refl _ _).drew
      obtain ⟨hv,hlook⟩ := (HF2.out.keptNo hks).size onm
      obtain ⟨us,hus⟩ : ∃ us,F.used = us := ⟨_,rfl⟩
      obtain ⟨sz,hsz⟩ : ∃ sz,sizeAt onm F.live = sz := ⟨_,rfl⟩
      have hub := HOI.out.bound
      have hsb := HOI.out.sizeAt_small onm
      rw [hus] at hub k1
      rw [hsz] at hsb hlook
      obtain ⟨hub1,hub2⟩ := hub
      obtain ⟨hsb1,hsb2⟩ := hsb
      have HUS : Hid (us = sumS F.live) := Lib.hid hus.symm
      have HSZ := Lib.hid hsz
      have HTS : Hid (TSt l rest b1 b2 S base g c ops x ⟨on,oe,ok,os,oc,oq,onm,osz,ohs⟩ (.slice A' ohs.length c') F.hE F.hS wa us F.live F.lastOf) := Lib.hid ⟨by rw [← hus];exact HF2.out.blk,HF2.out.live,HF2.out.last,HO2.out,HX.out,HR2.out,HF2.out.ne,HF2.out.l1,HF2.out.l2,hgw.out,HNX.out,HF2.out.s0,HF2.out.s1,HF2.out.s2⟩
      clear hus hsz hks HF2 HO2 HX HR2 HNX hgw
      go_upto_region 5 with fail
      refine Reg.wp_region_plan [⟨0,false,[]⟩,⟨1,false,[]⟩,⟨2,false,[]⟩,⟨3,false,[]⟩,⟨4,false,[]⟩,⟨5,false,[]⟩,⟨6,false,[]⟩,⟨7,false,[]⟩,⟨8,false,[]⟩,⟨9,false,[]⟩,⟨10,false,[]⟩,⟨11,false,[]⟩,⟨12,false,[]⟩,⟨13,false,[]⟩,⟨14,false,[]⟩,⟨15,true,[]⟩] rfl (by kernel_rfl) ?_
      repeat (first | (refine Reg.look rfl rfl rfl (by go_simp;rfl) rfl ?_;go_simp) | (refine Reg.skip rfl rfl rfl ?_;go_simp))
      refine Reg.act rfl ?_
      go_wp2_with fail
      have hks : Kp (· = l) wa (wa.setCell ⟨l,1,none⟩ (.int .i64 (us - sz))).drew := ((Kp.refl (· = l) wa).setCell (p := ⟨l,1,none⟩) (fun _ => rfl) _).drew
      have HT5 := Lib.hid (HTS.out.used (us - sz)).drew
      have HK5 := Lib.hid (HK2.out.trans hks (fun _ _ e => .inl e))
      clear hlook HTS HK2 hks y0 y1 y2 y3 y4 y5 y6 y7 y8 k0 k1 k2 k3 k4 f1 f3 f4
      (refine ⟨?anew,?_⟩;case anew => ((repeat (refine Reg.anew_cons rfl rfl (fun _ => by go_simp) ?_));exact Reg.anew_nil))
      repeat (first | (refine Reg.look rfl rfl rfl (by go_simp;rfl) rfl ?_;go_simp) | (refine Reg.skip rfl rfl rfl ?_;go_simp))
      (refine Reg.done ?_;simp only [Exit.then])
      obtain ⟨w5,hw5⟩ : ∃ w5,(wa.setCell ⟨l,1,none⟩ (.int .i64 (us - sz))).drew = w5 := ⟨_,rfl⟩
      rw [hw5] at HT5 HK5
      rw [hw5]
      clear hw5
      have y2 : w5.cell? ⟨x,2,none⟩ = some (.int .i64 ok) := Blk.cell HT5.out.box rfl
      have y6 : w5.cell? ⟨x,6,none⟩ = some (.string onm) := Blk.cell HT5.out.box rfl
      have k0 : w5.cell? ⟨l,0,none⟩ = some (.map (some b1)) := Blk.cell HT5.out.blk rfl
      go_upto_region 6 with fail
      refine Reg.wp_region_plan [⟨0,false,[]⟩,⟨1,false,[]⟩,⟨2,false,[]⟩,⟨3,false,[]⟩,⟨4,false,[]⟩,⟨5,false,[]⟩,⟨6,true,[]⟩] rfl (by kernel_rfl) ?_
      repeat (first | (refine Reg.look rfl rfl rfl (by go_simp;rfl) rfl ?_;go_simp) | (refine Reg.skip rfl rfl rfl ?_;go_simp))
      refine Reg.act rfl ?_
      obtain ⟨w6,hrun,ht6,hk6⟩ := HT5.out.drew.delete onm
      have HT6 := Lib.hid ht6
      have HK6 := Lib.hid (HK5.out.trans (((Kp.refl (· = b1) w5).drew).trans' hk6) (fun _ _ e => .inr (.inl e)))
      clear ht6 hk6 HT5 HK5 y2 y6 k0
      go_wp2_with fail
      try rw [hrun]
      try go_wp2_with fail
      clear hrun
      refine ⟨Reg.anew_nil,?_⟩
      (refine Reg.done ?_;simp only [Exit.then])
      have y2 : w6.cell? ⟨x,2,none⟩ = some (.int .i64 ok) := Blk.cell HT6.out.box rfl
      by_cases hk1 : ok = 1
      · subst hk1
        obtain ⟨hso1,hso2⟩ := HSO.out rfl
        try simp only at hso1 hso2
        have y6 : w6.cell? ⟨x,6,none⟩ = some (.string onm) := Blk.cell HT6.out.box rfl
        have y7 : w6.cell? ⟨x,7,none⟩ = some (.int .i64 osz) := Blk.cell HT6.out.box rfl
        have y8 : w6.cell? ⟨x,8,none⟩ = some (.slice A' ohs.length c') := Blk.cell HT6.out.box rfl
        have k0 : w6.cell? ⟨l,0,none⟩ = some (.map (some b1)) := Blk.cell HT6.out.blk rfl
        go_upto_region 8 with fail
        refine Reg.wp_region_plan [⟨0,false,[]⟩,⟨1,false,[]⟩,⟨2,false,[]⟩,⟨3,false,[]⟩,⟨4,false,[]⟩,⟨5,false,[]⟩,⟨6,false,[]⟩,⟨7,false,[]⟩,⟨8,true,[]⟩] rfl (by kernel_rfl) ?_
        repeat (first | (refine Reg.look rfl rfl rfl (by go_simp;rfl) rfl ?_;go_simp) | (refine Reg.skip rfl rfl rfl ?_;go_simp))
        refine Reg.act rfl ?_
        obtain ⟨w8,hrun,ht8,hk8⟩ := HT6.out.drew.putLive HNUM.out onm
        try simp only at hrun
        have HT8 := Lib.hid ht8
        have HK8 := Lib.hid (HK6.out.trans (((Kp.refl (· = b1) w6).drew).trans' hk8) (fun _ _ e => .inr (.inl e)))
        clear ht8 hk8 HT6 HK6 y2 y6 y7 y8 k0
        go_wp2_with fail
        try rw [hrun]
        try go_wp2_with fail
        clear hrun
        refine ⟨Reg.anew_nil,?_⟩
        (refine Reg.done ?_;simp only [Exit.then])
        have y7 : w8.cell? ⟨x,7,none⟩ = some (.int .i64 osz) := Blk.cell HT8.out.box rfl
        have k1 : w8.cell? ⟨l,1,none⟩ = some (.int .i64 (us - sz)) := Blk.cell HT8.out.blk rfl
        have f1 := Blk.fr HT8.out.blk 1
        go_upto_region 9 with fail
        refine Reg.wp_region_plan [⟨0,false,[]⟩,⟨1,false,[]⟩,⟨2,false,[]⟩,⟨3,false,[]⟩,⟨4,false,[]⟩,⟨5,false,[]⟩,⟨6,false,[]⟩,⟨7,false,[]⟩,⟨8,false,[]⟩,⟨9,false,[]⟩,⟨10,true,[]⟩] rfl (by kernel_rfl) ?_
        repeat (first | (refine Reg.look rfl rfl rfl (by go_simp;rfl) rfl ?_;go_simp) | (refine Reg.skip rfl rfl rfl ?_;go_simp))
        refine Reg.act rfl ?_
        go_wp2_with fail
        have hks : Kp (· = l) w8 (w8.setCell ⟨l,1,none⟩ (.int .i64 (us - sz + osz))).drew := ((Kp.refl (· = l) w8).setCell (p := ⟨l,1,none⟩) (fun _ => rfl) _).drew
        have HT9 := Lib.hid (HT8.out.used (us - sz + osz)).drew
        have HK9 := Lib.hid (HK8.out.trans hks (fun _ _ e => .inl e))
        clear HT8 HK8 hks y7 k1 f1
        (refine ⟨?anew,?_⟩;case anew => ((repeat (refine Reg.anew_cons rfl rfl (fun _ => by go_simp) ?_));exact Reg.anew_nil))
        repeat (first | (refine Reg.look rfl rfl rfl (by go_simp;rfl) rfl ?_;go_simp) | (refine Reg.skip rfl rfl rfl ?_;go_simp))
        (refine Reg.done ?_;simp only [Exit.then])
        obtain ⟨w9,hw9⟩ : ∃ w9,(w8.setCell ⟨l,1,none⟩ (.int .i64 (us - sz + osz))).drew = w9 := ⟨_,rfl⟩
        rw [hw9] at HT9 HK9
        rw [hw9]
        clear hw9
        have HU : Hid (us - sz + osz = sumS (mput onm (osz,ohs) (mdel onm F.live))) := Lib.hid (by
         rw [sumS_put,sumS_del,HSZ.out,HUS.out]
         rw [mget_del _ _ _ HOI.out.nodup,if_pos rfl])
        have HFQ : Hid (f.take (ops.take (i + 1)) = ⟨mput onm (osz,ohs) (mdel onm F.live),mput oc ⟨on,oe,1,os,oc,oq,onm,osz,ohs⟩ F.lastOf,F.hE,F.hS⟩) := Lib.hid (by
         rw [HFN.out];unfold FV.take1;rw [if_neg hk3,if_pos rfl])
        have y0 : w9.cell? ⟨x,0,none⟩ = some (.int .i64 on) := Blk.cell HT9.out.box rfl
        have y1 : w9.cell? ⟨x,1,none⟩ = some (.int .i64 oe) := Blk.cell HT9.out.box rfl
        have y2 := Blk.cell HT9.out.box (i := 2) rfl
        have y3 : w9.cell? ⟨x,3,none⟩ = some (.int .i64 os) := Blk.cell HT9.out.box rfl
        have y4 : w9.cell? ⟨x,4,none⟩ = some (.int .i64 oc) := Blk.cell HT9.out.box rfl
        have y5 : w9.cell? ⟨x,5,none⟩ = some (.int .i64 oq) := Blk.cell HT9.out.box rfl
        have y6 : w9.cell? ⟨x,6,none⟩ = some (.string onm) := Blk.cell HT9.out.box rfl
        have y7 : w9.cell? ⟨x,7,none⟩ = some (.int .i64 osz) := Blk.cell HT9.out.box rfl
        have y8 : w9.cell? ⟨x,8,none⟩ = some (.slice A' ohs.length c') := Blk.cell HT9.out.box rfl
        have k2 : w9.cell? ⟨l,2,none⟩ = some (.map (some b2)) := Blk.cell HT9.out.blk rfl
        try simp only at y2
        go_upto_region 10 with fail
        refine Reg.wp_region_plan [⟨0,false,[]⟩,⟨1,false,[]⟩,⟨2,false,[]⟩,⟨3,false,[]⟩,⟨4,false,[]⟩,⟨5,false,[]⟩,⟨6,false,[]⟩,⟨7,true,[]⟩] rfl (by kernel_rfl) ?_
        repeat (first | (refine Reg.look rfl rfl rfl (by go_simp;rfl) rfl ?_;go_simp) | (refine Reg.skip rfl rfl rfl ?_;go_simp))
        refine Reg.act rfl ?_
        obtain ⟨wz,hrun,htz,hkz⟩ := HT9.out.drew.putLast HNUM.out
        unfold OpL.cells at hrun
        try simp only at hrun
        have HTZ := Lib.hid htz
        have HKZ := Lib.hid (HK9.out.trans (((Kp.refl (· = b2) w9).drew).trans' hkz) (fun _ _ e => .inr (.inr e)))
        clear htz hkz y0 y1 y2 y3 y4 y5 y6 y7 y8 k2
        go_wp2_with fail
        try rw [hrun]
        try go_wp2_with fail
        clear hrun
        refine ⟨Reg.anew_nil,?_⟩
        (refine Reg.done ?_;simp only [Exit.then])
        go_wp2_with fail
        go_roundw
        case rel => exact ⟨i + 1,by omega,by go_num,Lib.hid (by rw [HFQ.out];exact HTZ.out.fat HU.out),Lib.hid HTZ.out.own,HKZ⟩
        case measure => simp [intOf];omega
      · have hk1b : (ok == 1) = false := beq_eq_false_iff_ne.2 hk1
        have HU : Hid (us - sz = sumS (mdel onm F.live)) := Lib.hid (by
         rw [sumS_del,HSZ.out,HUS.out])
        have HFQ : Hid (f.take (ops.take (i + 1)) = ⟨mdel onm F.live,mput oc ⟨on,oe,ok,os,oc,oq,onm,osz,ohs⟩ F.lastOf,F.hE,F.hS⟩) := Lib.hid (by
         rw [HFN.out];unfold FV.take1;rw [if_neg hk3,if_neg hk1])
        have y0 : w6.cell? ⟨x,0,none⟩ = some (.int .i64 on) := Blk.cell HT6.out.box rfl
        have y1 : w6.cell? ⟨x,1,none⟩ = some (.int .i64 oe) := Blk.cell HT6.out.box rfl
        have y2 := Blk.cell HT6.out.box (i := 2) rfl
        have y3 : w6.cell? ⟨x,3,none⟩ = some (.int .i64 os) := Blk.cell HT6.out.box rfl
        have y4 : w6.cell? ⟨x,4,none⟩ = some (.int .i64 oc) := Blk.cell HT6.out.box rfl
        have y5 : w6.cell? ⟨x,5,none⟩ = some (.int .i64 oq) := Blk.cell HT6.out.box rfl
        have y6 : w6.cell? ⟨x,6,none⟩ = some (.string onm) := Blk.cell HT6.out.box rfl
        have y7 : w6.cell? ⟨x,7,none⟩ = some (.int .i64 osz) := Blk.cell HT6.out.box rfl
        have y8 : w6.cell? ⟨x,8,none⟩ = some (.slice A' ohs.length c') := Blk.cell HT6.out.box rfl
        have k2 : w6.cell? ⟨l,2,none⟩ = some (.map (some b2)) := Blk.cell HT6.out.blk rfl
        try simp only at y2
        go_upto_region 10 with fail
        refine Reg.wp_region_plan [⟨0,false,[]⟩,⟨1,false,[]⟩,⟨2,false,[]⟩,⟨3,false,[]⟩,⟨4,false,[]⟩,⟨5,false,[]⟩,⟨6,false,[]⟩,⟨7,true,[]⟩] rfl (by kernel_rfl) ?_
        repeat (first | (refine Reg.look rfl rfl rfl (by go_simp;rfl) rfl ?_;go_simp) | (refine Reg.skip rfl rfl rfl ?_;go_simp))
        refine Reg.act rfl ?_
        obtain ⟨wz,hrun,htz,hkz⟩ := HT6.out.drew.putLast HNUM.out
        unfold OpL.cells at hrun
        try simp only at hrun
        have HTZ := Lib.hid htz
        have HKZ := Lib.hid (HK6.out.trans (((Kp.refl (· = b2) w6).drew).trans' hkz) (fun _ _ e => .inr (.inr e)))
        clear htz hkz y0 y1 y2 y3 y4 y5 y6 y7 y8 k2
        go_wp2_with fail
        try rw [hrun]
        try go_wp2_with fail
        clear hrun
        refine ⟨Reg.anew_nil,?_⟩
        (refine Reg.done ?_;simp only [Exit.then])
        go_wp2_with fail
        go_roundw
        case rel => exact ⟨i + 1,by omega,by go_num,Lib.hid (by rw [HFQ.out];exact HTZ.out.fat HU.out),Lib.hid HTZ.out.own,HKZ⟩
        case measure => simp [intOf];omega
  · obtain rfl : i = ops.length := by omega
    go_wp2_with fail
    go_end0
    exact ⟨rfl,by have := HF.out;rw [List.take_length] at this;exact this,HO.out,HK.out⟩
end
section
open Go.RowKit Go.ChangeShapes Go.WideShapes Go.ChangeAt
theorem Own.one (w : World) (o : OpL) (v : Value) (S : Nat → Prop) (hn : o.nums) (hr : Rp.str.slice.R w S [v] o.hashes) (hv : v.oneCell' = true) :
 Own Rp.opl (w.alloc (.cells (o.cells v).toArray 36)) S w.heap.size 36 (.slice (some ⟨w.heap.size,0,none⟩) 1 1) [o] := by
 refine ⟨o.cells v,⟨rfl,.inr ⟨w.heap.size,1,_,rfl,Nat.le_refl _,heap_alloc_new _ _,Nat.le_refl _,by unfold maxLen;omega,rfl,rfl⟩⟩,?_,fun i a hi => ?_⟩
 · intro u hu
   simp only [OpL.cells,List.mem_cons,List.not_mem_nil,or_false] at hu
   rcases hu with rfl | rfl | rfl | rfl | rfl | rfl | rfl | rfl | rfl <;> first | rfl | exact hv
 · obtain rfl : i = 0 := by have := (List.getElem?_eq_some_iff.1 hi).1;simp at this;exact this
   injection hi with hi
   subst hi
   exact ⟨v,rfl,hn,Rp.str.slice.keptNo hr ((Kp.refl _ _).alloc _)⟩
structure LIn (w : World) (l b1 b2 : Nat) (ov lv : Value) (S : Nat → Prop) (f : FV) (L : LV) : Prop where
 fat : FAt w l [ov,lv,.int .i64 L.fence,.int .i64 L.settled,.int .i64 L.quota,.int .i64 L.room] b1 b2 S f
 ops : Own Rp.opl w S 0 36 ov L.ops
 lost : Own Rp.opl w S 0 36 lv L.lost
 apart : ∀ k,ov.ownBlock = some k → lv.ownBlock ≠ some k
 so : ∀ k,ov.ownBlock = some k → ¬ S k
 sl : ∀ k,lv.ownBlock = some k → ¬ S k
 sb : ∀ k,S k → k < w.heap.size
def Foot (l b1 b2 : Nat) (ov lv : Value) (S : Nat → Prop) : Nat → Prop := fun k => T3 l b1 b2 k ∨ ov.ownBlock = some k ∨ lv.ownBlock = some k ∨ S k
def LAt (w : World) (l : Nat) (L : LV) (F : Nat → Prop) : Prop := ∃ b1 b2 ov lv S,LIn w l b1 b2 ov lv S L.fold L ∧ ∀ k,F k ↔ Foot l b1 b2 ov lv S k
theorem Own.ne_blk {α : Type} {E : Rp α} {w : World} {S : Nat → Prop} {base : Nat} {v : Value} {m : List α} {l : Nat} {cs : List Value} (h : Own E w S base 36 v m) (hb : Blk w l 90 cs) : ∀ k,v.ownBlock = some k → k ≠ l := by
 rintro k hk rfl
 obtain ⟨cs',h1⟩ := h.block hk
 unfold Blk at hb
 rw [hb] at h1
 injection h1 with h1
 injection h1 with _ h1
 exact absurd h1 (by decide)
theorem Own.ne_map {α : Type} {E : Rp α} {w : World} {S : Nat → Prop} {base : Nat} {v : Value} {e : TypeId} {m : List α} {b : Nat} {es : Array MapEntry} {clock : Nat} (h : Own E w S base e v m) (hb : w.heap[b]? = some (.map es clock)) : ∀ k,v.ownBlock = some k → k ≠ b := by
 rintro k hk rfl
 obtain ⟨cs',h1⟩ := h.block hk
 rw [hb] at h1
 cases h1
namespace LIn
variable {w w' : World} {l b1 b2 : Nat} {ov lv : Value} {S T : Nat → Prop} {f : FV} {L : LV}
theorem kept (h : LIn w l b1 b2 ov lv S f L) (hk : Kp T w w') (hf : ∀ k,Foot l b1 b2 ov lv S k → ¬ T k) : LIn w' l b1 b2 ov lv S f L :=
 ⟨h.fat.kept hk (hf _ (.inl (.inl rfl))) (hf _ (.inl (.inr (.inl rfl)))) (hf _ (.inl (.inr (.inr rfl)))) (fun k hs _ => hf k (.inr (.inr (.inr hs)))),
  h.ops.kept hk (fun k hs _ => hf k (.inr (.inr (.inr hs)))) (fun k hv => hf k (.inr (.inl hv))),
  h.lost.kept hk (fun k hs _ => hf k (.inr (.inr (.inr hs)))) (fun k hv => hf k (.inr (.inr (.inl hv)))),h.apart,h.so,h.sl,fun k hs => Nat.lt_of_lt_of_le (h.sb k hs) hk.size⟩
theorem keptNo (h : LIn w l b1 b2 ov lv S f L) (hk : Kp No w w') : LIn w' l b1 b2 ov lv S f L := h.kept hk (fun _ _ x => x)
theorem ol (h : LIn w l b1 b2 ov lv S f L) : ∀ k,ov.ownBlock = some k → ¬ T3 l b1 b2 k := by
 intro k hk ht
 obtain ⟨_,_,e1⟩ := h.fat.live.block
 obtain ⟨_,_,e2⟩ := h.fat.last.block
 rcases ht with ht | ht | ht
 · exact h.ops.ne_blk h.fat.blk k hk ht
 · exact h.ops.ne_map e1 k hk ht
 · exact h.ops.ne_map e2 k hk ht
theorem ll (h : LIn w l b1 b2 ov lv S f L) : ∀ k,lv.ownBlock = some k → ¬ T3 l b1 b2 k := by
 intro k hk ht
 obtain ⟨_,_,e1⟩ := h.fat.live.block
 obtain ⟨_,_,e2⟩ := h.fat.last.block
 rcases ht with ht | ht | ht
 · exact h.lost.ne_blk h.fat.blk k hk ht
 · exact h.lost.ne_map e1 k hk ht
 · exact h.lost.ne_map e2 k hk ht
theorem st (h : LIn w l b1 b2 ov lv S f L) : ∀ k,T3 l b1 b2 k → ¬ S k := by
 rintro k (rfl | rfl | rfl)
 · exact h.fat.s0
 · exact h.fat.s1
 · exact h.fat.s2
theorem footlt (h : LIn w l b1 b2 ov lv S f L) : ∀ k,Foot l b1 b2 ov lv S k → k < w.heap.size := by
 rintro k ((rfl | rfl | rfl) | hk | hk | hk)
 · exact Blk.lt h.fat.blk
 · exact h.fat.live.lt
 · exact h.fat.last.lt
 · exact (h.ops.lt k hk).2
 · exact (h.lost.lt k hk).2
 · exact h.sb k hk
theorem oshape (h : LIn w l b1 b2 ov lv S f L) : ∃ A c,ov = .slice A L.ops.length c := h.ops.shape
theorem lshape (h : LIn w l b1 b2 ov lv S f L) : ∃ A c,lv = .slice A L.lost.length c := h.lost.shape
theorem fence (h : LIn w l b1 b2 ov lv S f L) (e : Int) : LIn (w.setCell ⟨l,7,none⟩ (.int .i64 e)) l b1 b2 ov lv S f { L with fence := e } := by
 have hk : Kp (· = l) w (w.setCell ⟨l,7,none⟩ (.int .i64 e)) := (Kp.refl (· = l) w).setCell (p := ⟨l,7,none⟩) (fun _ => rfl) _
 have hs : ∀ k,S k → k < w.heap.size → ¬ k = l := fun k hk _ e => h.fat.s0 (e ▸ hk)
 exact ⟨⟨Blk.set h.fat.blk 7 _,h.fat.live.kept hk (fun e => h.fat.l1 e.symm) hs,h.fat.last.kept hk (fun e => h.fat.l2 e.symm) hs,h.fat.ne,h.fat.s0,h.fat.s1,h.fat.s2⟩,
  h.ops.kept hk hs (fun k hv e => h.ol k hv (.inl e)),h.lost.kept hk hs (fun k hv e => h.ll k hv (.inl e)),h.apart,h.so,h.sl,fun k hs => Nat.lt_of_lt_of_le (h.sb k hs) hk.size⟩
theorem settled (h : LIn w l b1 b2 ov lv S f L) (e : Int) : LIn (w.setCell ⟨l,8,none⟩ (.int .i64 e)) l b1 b2 ov lv S f { L with settled := e } := by
 have hk : Kp (· = l) w (w.setCell ⟨l,8,none⟩ (.int .i64 e)) := (Kp.refl (· = l) w).setCell (p := ⟨l,8,none⟩) (fun _ => rfl) _
 have hs : ∀ k,S k → k < w.heap.size → ¬ k = l := fun k hk _ e => h.fat.s0 (e ▸ hk)
 exact ⟨⟨Blk.set h.fat.blk 8 _,h.fat.live.kept hk (fun e => h.fat.l1 e.symm) hs,h.fat.last.kept hk (fun e => h.fat.l2 e.symm) hs,h.fat.ne,h.fat.s0,h.fat.s1,h.fat.s2⟩,
  h.ops.kept hk hs (fun k hv e => h.ol k hv (.inl e)),h.lost.kept hk hs (fun k hv e => h.ll k hv (.inl e)),h.apart,h.so,h.sl,fun k hs => Nat.lt_of_lt_of_le (h.sb k hs) hk.size⟩
theorem grown (h : LIn w l b1 b2 ov lv S f L) {S' : Nat → Prop} {m : List OpL} {v' : Value} (hs' : ∀ k,S' k → k < w.heap.size ∧ ¬ T3 l b1 b2 k ∧ ov.ownBlock ≠ some k ∧ lv.ownBlock ≠ some k) (hown : Own Rp.opl w' (fun k => S k ∨ S' k) 0 36 v' (L.ops ++ m)) (hg : w.grownBy w' ov.ownBlock)
 (hb : v'.ownBlock = ov.ownBlock ∨ v'.ownBlock = some w.heap.size) :
 LIn (w'.setCell ⟨l,5,none⟩ v') l b1 b2 v' lv (fun k => S k ∨ S' k) f { L with ops := L.ops ++ m } ∧ Kp (fun k => k = l ∨ ov.ownBlock = some k) w (w'.setCell ⟨l,5,none⟩ v') := by
 have hk1 : Kp (fun k => ov.ownBlock = some k) w w' := (Kp.refl _ _).grown hg (fun g hg _ => hg)
 have hk2 : Kp (· = l) w' (w'.setCell ⟨l,5,none⟩ v') := (Kp.refl (· = l) w').setCell (p := ⟨l,5,none⟩) (fun _ => rfl) _
 have hk : Kp (fun k => k = l ∨ ov.ownBlock = some k) w (w'.setCell ⟨l,5,none⟩ v') := (hk1.mono (fun _ _ e => .inr e)).trans (hk2.mono (fun _ _ e => .inl e)) (fun _ _ e => e)
 have hlb : l < w.heap.size := Blk.lt h.fat.blk
 have hb1 := h.fat.live.lt
 have hb2 := h.fat.last.lt
 have hS : ∀ k,S k ∨ S' k → k < w.heap.size ∧ ¬ T3 l b1 b2 k ∧ ov.ownBlock ≠ some k ∧ lv.ownBlock ≠ some k := by
  rintro k (hk | hk)
  · exact ⟨h.sb k hk,fun ht => h.st k ht hk,fun e => h.so k e hk,fun e => h.sl k e hk⟩
  · exact hs' k hk
 have hob : ∀ k,ov.ownBlock = some k → k ≠ l := fun k hk e => h.ol k hk (.inl e)
 have hfat : FAt w' l [ov,lv,.int .i64 L.fence,.int .i64 L.settled,.int .i64 L.quota,.int .i64 L.room] b1 b2 (fun k => S k ∨ S' k) f :=
  (h.fat.kept hk1 (fun e => h.ol l e (.inl rfl)) (fun e => h.ol b1 e (.inr (.inl rfl))) (fun e => h.ol b2 e (.inr (.inr rfl))) (fun k hs _ e => h.so k e hs)).more (fun _ hk => .inl hk) (fun e => (hS _ e).2.1 (.inl rfl)) (fun e => (hS _ e).2.1 (.inr (.inl rfl))) (fun e => (hS _ e).2.1 (.inr (.inr rfl)))
 have hs2 : ∀ k,S k ∨ S' k → k < w'.heap.size → ¬ k = l := fun k hk _ e => (hS k hk).2.1 (.inl e)
 have hvb : ∀ k,v'.ownBlock = some k → ov.ownBlock = some k ∨ k = w.heap.size := by
  intro k hk
  rcases hb with e | e
  · exact .inl (e ▸ hk)
  · rw [e] at hk;injection hk with hk;exact .inr hk.symm
 refine ⟨⟨⟨Blk.set hfat.blk 5 _,hfat.live.kept hk2 (fun e => hfat.l1 e.symm) hs2,hfat.last.kept hk2 (fun e => hfat.l2 e.symm) hs2,hfat.ne,hfat.s0,hfat.s1,hfat.s2⟩,
  hown.kept hk2 hs2 (fun k hv e => ?_),((h.lost.kept hk1 (fun k hs _ e => h.so k e hs) (fun k hv e => h.apart k e hv)).mono (Nat.le_refl _) (fun _ hk => .inl hk)).kept hk2 hs2 (fun k hv e => h.ll k hv (.inl e)),fun k hv hl => ?_,fun k hv hs => ?_,fun k hl hs => (hS k hs).2.2.2 hl,fun k hs => ?_⟩,hk⟩
 · rcases hvb k hv with e2 | e2
   · exact hob k e2 e
   · omega
 · rcases hvb k hv with e2 | e2
   · exact h.apart k e2 hl
   · have := (h.lost.lt k hl).2;omega
 · rcases hvb k hv with e2 | e2
   · exact (hS k hs).2.2.1 e2
   · have := (hS k hs).1;omega
 · have := (hS k hs).1
   have := hk.size
   omega
theorem took (h : LIn w l b1 b2 ov lv S f L) {f' : FV} (hf : FAt w' l [ov,lv,.int .i64 L.fence,.int .i64 L.settled,.int .i64 L.quota,.int .i64 L.room] b1 b2 S f') (hk : Kp (T3 l b1 b2) w w') : LIn w' l b1 b2 ov lv S f' L :=
 ⟨hf,h.ops.kept hk (fun k hs _ ht => h.st k ht hs) h.ol,h.lost.kept hk (fun k hs _ ht => h.st k ht hs) h.ll,h.apart,h.so,h.sl,fun k hs => Nat.lt_of_lt_of_le (h.sb k hs) hk.size⟩
end LIn
namespace LAt
variable {w w' : World} {l : Nat} {L : LV} {F T : Nat → Prop}
theorem kept (h : LAt w l L F) (hk : Kp T w w') (hf : ∀ k,F k → ¬ T k) : LAt w' l L F := by
 obtain ⟨b1,b2,ov,lv,S,h1,h2⟩ := h
 exact ⟨b1,b2,ov,lv,S,h1.kept hk (fun k hk => hf k ((h2 k).2 hk)),h2⟩
theorem keptNo (h : LAt w l L F) (hk : Kp No w w') : LAt w' l L F := h.kept hk (fun _ _ x => x)
end LAt
set_option maxRecDepth 100000 in
set_option maxHeartbeats 1000000 in
theorem l_has (n e : Int) (l b1 b2 : Nat) (ov lv : Value) (S : Nat → Prop) (f : FV) (L : LV) (w : World) (h : LIn w l b1 b2 ov lv S f L) (hn : 0 ≤ n) (hl : L.ops.length ≤ 1000000) :
 Calls Tryz.prog 96 #[.pointer (some ⟨l,0,none⟩),.agg #[.int .i64 n,.int .i64 e]] w fun x w' => x = .returned (.bool (hasL n e L)) ∧ Kp No w w' := by
 obtain ⟨A,c,hov⟩ := h.oshape
 subst hov
 have HO := Lib.hid h.ops
 have hwa : Kp No w (w.alloc (.cells #[.int .i64 n,.int .i64 e] 42)) := (Kp.refl _ _).alloc _
 have k5 : w.cell? ⟨l,5,none⟩ = some (.slice A L.ops.length c) := Blk.cell h.fat.blk rfl
 have k5a : (w.alloc (.cells #[.int .i64 n,.int .i64 e] 42)).cell? ⟨l,5,none⟩ = some (.slice A L.ops.length c) := (hwa.cell (lt_of_cell k5) (fun x => x)).trans k5
 obtain ⟨B,hB⟩ : ∃ B,hasL n e L = B := ⟨_,rfl⟩
 rw [hB]
 have HB := Lib.hid hB
 have hb : hasL n e L = B := hB
 unfold hasL at hb
 clear h hB k5 hwa
 by_cases hn0 : n = 0
 · subst hn0
   have HB : Hid (true = B) := Lib.hid (by rw [← hb];rfl)
   clear hb
   go_enter Tryz.func96,Tryz.ntmps96
   go_wp2_with fail
   go_quiet (fail)
   go_wp2_with fail
   go_ret
   exact ⟨by rw [← HB.out];rfl,((Kp.refl _ _).alloc _).drewN _⟩
 have hn0b : (n == 0) = false := beq_eq_false_iff_ne.2 hn0
 rw [hn0b,Bool.false_or] at hb
 by_cases hle : n ≤ (L.ops.length : Int)
 · rw [decide_eq_true hle,Bool.true_and] at hb
   obtain ⟨k,hk⟩ : ∃ k : Nat,n - 1 = k := ⟨(n - 1).toNat,by omega⟩
   have hkl : k < L.ops.length := by omega
   obtain ⟨o,ho⟩ : ∃ o,L.ops[k]? = some o := ⟨_,List.getElem?_eq_getElem hkl⟩
   unfold epochAt at hb
   rw [hk,Int.toNat_natCast,ho] at hb
   have hb : (o.epoch == e) = B := hb
   obtain ⟨g,A',c',rfl,_,_,hcell,_,_,_⟩ := Own.at_opl HO.out ho
   have y1 : w.cell? ⟨g,k * 9 + 1,none⟩ = some (.int .i64 o.epoch) := hcell 1 _ rfl
   have hwa : Kp No w (w.alloc (.cells #[.int .i64 n,.int .i64 e] 42)) := (Kp.refl _ _).alloc _
   have y1a : (w.alloc (.cells #[.int .i64 n,.int .i64 e] 42)).cell? ⟨g,k * 9 + 1,none⟩ = some (.int .i64 o.epoch) := (hwa.cell (lt_of_cell y1) (fun x => x)).trans y1
   obtain ⟨oe,hoe⟩ : ∃ oe,o.epoch = oe := ⟨_,rfl⟩
   rw [hoe] at y1a hb
   obtain rfl : n = (k : Int) + 1 := by omega
   have HB : Hid ((oe == e) = B) := Lib.hid hb
   have hkk : (k : Int) + 1 - 1 = k := by omega
   have hk80 : k ≤ 1000000 := by omega
   have hnn : ¬ ((k : Int) + 1 = 0) := by omega
   clear hb ho hcell y1 hwa hoe hk hn0
   go_enter Tryz.func96,Tryz.ntmps96
   go_wp2_with fail
   go_quiet (fail)
   go_wp2_with fail
   go_ret
   exact ⟨by rw [← HB.out];rfl,((Kp.refl _ _).alloc _).drewN _⟩
 · rw [decide_eq_false hle,Bool.false_and] at hb
   have HB : Hid (false = B) := Lib.hid hb
   have hled : decide (n ≤ (L.ops.length : Int)) = false := decide_eq_false hle
   clear hb hle
   go_enter Tryz.func96,Tryz.ntmps96
   go_wp2_with fail
   go_quiet (fail)
   go_wp2_with fail
   go_ret
   exact ⟨by rw [← HB.out];rfl,((Kp.refl _ _).alloc _).drewN _⟩
end
section
open Go.RowKit Go.ChangeShapes Go.WideShapes Go.ChangeAt
set_option maxRecDepth 100000 in
set_option maxHeartbeats 2000000 in
theorem l_put (o : OpL) (ep st : Int) (Ah : Option Addr) (ch : Nat) (SA : Nat → Prop) (l b1 b2 : Nat) (ov lv : Value) (S : Nat → Prop) (L : LV) (w : World) (h : LIn w l b1 b2 ov lv S L.fold L) (hh : Rp.str.slice.R w SA [.slice Ah o.hashes.length ch] o.hashes)
 (hn : (o.placed (L.ops.length + 1) ep st).nums) (hll : o.hashes.length ≤ 1000000) (hl : L.ops.length ≤ 1000) (hf : L.fold.Ok L.ops.length) (hsz : o.kind = 1 → Small o.size) :
 Calls Tryz.prog 95 #[.pointer (some ⟨l,0,none⟩),opV o (.slice Ah o.hashes.length ch),.int .i64 ep,.int .i64 st] w fun x w' => x = .returned (doneV (putL o ep st L).1) ∧
  ∃ ov' S',LIn w' l b1 b2 ov' lv S' (putL o ep st L).2.fold (putL o ep st L).2 ∧ Upd (Foot l b1 b2 ov lv S) w w' (Foot l b1 b2 ov' lv S') := by
 obtain ⟨A,c,hov⟩ := h.oshape
 subst hov
 unfold opV
 obtain ⟨on,oe,ok,os,oc,oq,onm,osz,ohs⟩ := o
 simp only at *
 have H := Lib.hid h
 have HH := Lib.hid hh
 have HN := Lib.hid hn
 have HF := Lib.hid hf
 have HSZ := Lib.hid hsz
 clear h hh hn hf hsz
 obtain ⟨n,hnl⟩ : ∃ n,L.ops.length = n := ⟨_,rfl⟩
 obtain ⟨x,hx⟩ : ∃ x,w.heap.size = x := ⟨_,rfl⟩
 obtain ⟨wa,hwa⟩ : ∃ wa,(w.alloc (.cells #[.int .i64 on,.int .i64 oe,.int .i64 ok,.int .i64 os,.int .i64 oc,.int .i64 oq,.string onm,.int .i64 osz,.slice Ah ohs.length ch] 36)).alloc (.cells #[.int .i64 0,.int .i64 0,.int .i64 0] 44) = wa := ⟨_,rfl⟩
 have hka : Kp No w wa := by rw [← hwa];exact ((Kp.refl _ _).alloc _).alloc _
 have hbx : Blk wa x 36 [.int .i64 on,.int .i64 oe,.int .i64 ok,.int .i64 os,.int .i64 oc,.int .i64 oq,.string onm,.int .i64 osz,.slice Ah ohs.length ch] := by rw [← hwa,← hx];exact (Blk.new w _ _).kept (S := No) ((Kp.refl _ _).alloc _) (fun x => x)
 have hbd : Blk wa (x + 1) 44 [.int .i64 0,.int .i64 0,.int .i64 0] := by
  rw [← hwa,← hx]
  have := Blk.new (w.alloc (.cells #[.int .i64 on,.int .i64 oe,.int .i64 ok,.int .i64 os,.int .i64 oc,.int .i64 oq,.string onm,.int .i64 osz,.slice Ah ohs.length ch] 36)) [.int .i64 0,.int .i64 0,.int .i64 0] 44
  simpa using this
 have HA := Lib.hid (H.out.keptNo hka)
 have HKA := Lib.hid hka
 have HHA := Lib.hid (Rp.str.slice.keptNo HH.out hka)
 have HBX := Lib.hid hbx
 have HBD := Lib.hid hbd
 have hlx : l ≠ x ∧ l ≠ x + 1 := by have := Blk.lt H.out.fat.blk;omega
 have HLX := Lib.hid hlx
 have hlx1 := hlx.1
 clear hlx
 go_enter Tryz.func95,Tryz.ntmps95
 go_upto_region 1 with fail
 try rw [hwa,hx]
 have k5 : wa.cell? ⟨l,5,none⟩ = some (.slice A L.ops.length c) := Blk.cell HA.out.fat.blk rfl
 rw [hnl] at k5
 have y0 : wa.cell? ⟨x,0,none⟩ = some _ := Blk.cell hbx rfl
 have y1 : wa.cell? ⟨x,1,none⟩ = some _ := Blk.cell hbx rfl
 have y2 : wa.cell? ⟨x,2,none⟩ = some _ := Blk.cell hbx rfl
 have y3 : wa.cell? ⟨x,3,none⟩ = some _ := Blk.cell hbx rfl
 have y4 : wa.cell? ⟨x,4,none⟩ = some _ := Blk.cell hbx rfl
 have y5 : wa.cell? ⟨x,5,none⟩ = some _ := Blk.cell hbx rfl
 have y6 : wa.cell? ⟨x,6,none⟩ = some _ := Blk.cell hbx rfl
 have y7 : wa.cell? ⟨x,7,none⟩ = some _ := Blk.cell hbx rfl
 have y8 : wa.cell? ⟨x,8,none⟩ = some _ := Blk.cell hbx rfl
 have f0 := Blk.fr hbx 0
 have f1 := Blk.fr hbx 1
 have f3 := Blk.fr hbx 3
 have hl2 : n ≤ 1000 := by omega
 clear hbx hbd hka hwa
 go_upto_region 2 with fail
 obtain ⟨wb,hwb⟩ : ∃ wb,((wa.setCell ⟨x,0,none⟩ (.int .i64 ((n : Int) + 1))).setCell ⟨x,1,none⟩ (.int .i64 ep)).setCell ⟨x,3,none⟩ (.int .i64 st) = wb := ⟨_,rfl⟩
 have hkab : Kp (· = x) wa wb := by rw [← hwb];exact (((Kp.refl (· = x) wa).setCell (p := ⟨x,0,none⟩) (fun _ => rfl) _).setCell (p := ⟨x,1,none⟩) (fun _ => rfl) _).setCell (p := ⟨x,3,none⟩) (fun _ => rfl) _
 have hkb : Kp No w wb := HKA.out.trans hkab (fun i hi e => absurd hi (by omega))
 have hbxb : Blk wb x 36 [.int .i64 ((n : Int) + 1),.int .i64 ep,.int .i64 ok,.int .i64 st,.int .i64 oc,.int .i64 oq,.string onm,.int .i64 osz,.slice Ah ohs.length ch] := by rw [← hwb];exact Blk.set (Blk.set (Blk.set HBX.out 0 (.int .i64 ((n : Int) + 1))) 1 (.int .i64 ep)) 3 (.int .i64 st)
 have hbdb : Blk wb (x + 1) 44 [.int .i64 0,.int .i64 0,.int .i64 0] := HBD.out.kept hkab (by omega)
 have HB := Lib.hid (H.out.keptNo hkb)
 have HKB := Lib.hid hkb
 have HHB := Lib.hid (Rp.str.slice.keptNo HH.out hkb)
 have HBXB := Lib.hid hbxb
 have HBDB := Lib.hid hbdb
 have hxw : x + 1 < wb.heap.size := Blk.lt hbdb
 have HXW := Lib.hid hxw
 rw [hwb]
 clear hkab hkb hbdb hwb HA HKA HHA HBX HBD k5 y0 y1 y2 y3 y4 y5 y6 y7 y8 f0 f1 f3 hxw
 have k5 : wb.cell? ⟨l,5,none⟩ = some (.slice A L.ops.length c) := Blk.cell HB.out.fat.blk rfl
 rw [hnl] at k5
 have y0 : wb.cell? ⟨x,0,none⟩ = some _ := Blk.cell hbxb rfl
 have y1 : wb.cell? ⟨x,1,none⟩ = some _ := Blk.cell hbxb rfl
 have y2 : wb.cell? ⟨x,2,none⟩ = some _ := Blk.cell hbxb rfl
 have y3 : wb.cell? ⟨x,3,none⟩ = some _ := Blk.cell hbxb rfl
 have y4 : wb.cell? ⟨x,4,none⟩ = some _ := Blk.cell hbxb rfl
 have y5 : wb.cell? ⟨x,5,none⟩ = some _ := Blk.cell hbxb rfl
 have y6 : wb.cell? ⟨x,6,none⟩ = some _ := Blk.cell hbxb rfl
 have y7 : wb.cell? ⟨x,7,none⟩ = some _ := Blk.cell hbxb rfl
 have y8 : wb.cell? ⟨x,8,none⟩ = some _ := Blk.cell hbxb rfl
 clear hbxb
 obtain ⟨o2,ho2⟩ : ∃ o2,(⟨(n : Int) + 1,ep,ok,st,oc,oq,onm,osz,ohs⟩ : OpL) = o2 := ⟨_,rfl⟩
 have HN2 : Hid o2.nums := Lib.hid (by rw [← ho2];have := HN.out;rw [hnl] at this;exact this)
 have HO2 := Lib.hid ho2
 clear ho2
 refine Reg.wp_region_plan [⟨0,false,[]⟩,⟨1,false,[]⟩,⟨2,false,[]⟩,⟨3,false,[]⟩,⟨4,false,[]⟩,⟨5,false,[]⟩,⟨6,true,[2,3,4]⟩,⟨7,true,[2,3,4]⟩,⟨8,true,[]⟩,⟨9,false,[]⟩,⟨10,false,[]⟩,⟨11,true,[]⟩] rfl (by kernel_rfl) ?_
 repeat (first | (refine Reg.look rfl rfl rfl (by go_simp;rfl) rfl ?_;go_simp) | (refine Reg.skip rfl rfl rfl ?_;go_simp))
 refine Reg.act rfl ?_
 go_wp2_with fail
 obtain ⟨w3,hw3⟩ : ∃ w3,(wb.alloc (.cells #[.int .i64 ((n : Int) + 1),.int .i64 ep,.int .i64 ok,.int .i64 st,.int .i64 oc,.int .i64 oq,.string onm,.int .i64 osz,.slice Ah ohs.length ch] 36)).drew = w3 := ⟨_,rfl⟩
 have hk3 : Kp No wb w3 := by rw [← hw3];exact ((Kp.refl _ _).alloc _).drew
 have hrd : Rp.opl.slice.R w3 (fun k => SA k ∨ k = wb.heap.size) [.slice (some ⟨wb.heap.size,0,none⟩) 1 1] [o2] := by
  rw [← hw3]
  have := opl_lit wb o2 (.slice Ah ohs.length ch) (fun k => SA k ∨ k = wb.heap.size) (.inr rfl) HN2.out (by rw [← HO2.out];exact Rp.str.slice.more HHB.out (fun _ h => .inl h))
  rw [← HO2.out] at this ⊢
  exact Rp.opl.slice.keptNo this ((Kp.refl _ _).drew)
 have hsz3 : wb.heap.size < w3.heap.size := by rw [← hw3];simp
 have hoh : o2.hashes.length ≤ 1000000 := by rw [← HO2.out];exact hll
 have k5c : w3.cell? ⟨l,5,none⟩ = some (.slice A n c) := (hk3.cell (lt_of_cell k5) (fun x => x)).trans k5
 have HRD := Lib.hid hrd
 have HK3 := Lib.hid hk3
 have HSZ3 := Lib.hid hsz3
 have HOH := Lib.hid hoh
 rw [hw3]
 clear hw3 hk3 hrd hsz3 hoh y0 y1 y2 y3 y4 y5 y6 y7 y8 k5
 (refine ⟨?anew,?_⟩;case anew => ((repeat (refine Reg.anew_cons rfl rfl (fun _ => by go_simp) ?_));exact Reg.anew_nil))
 refine Reg.act rfl ?_
 go_wp2_with fail
 refine (c_own [o2] (some ⟨wb.heap.size,0,none⟩) 1 w3 _ HRD.out (by simp) (by intro o ho;simp only [List.mem_cons,List.not_mem_nil,or_false] at ho;subst ho;exact HOH.out)).mono ?_
 rintro e w4 ⟨A1,c1,rfl,_,_,hown,hk4⟩
 have k5d : w4.cell? ⟨l,5,none⟩ = some (.slice A n c) := (hk4.cell (lt_of_cell k5c) (fun x => x)).trans k5c
 have HK4 := Lib.hid (HK3.out.trans' hk4)
 have h4 := HB.out.keptNo (HK3.out.trans' hk4)
 have hsrc : Rp.opl.slice.R w4 (fun k => w3.heap.size ≤ k ∧ k < w4.heap.size) [.slice A1 [o2].length c1] [o2] := Rp.opl.slice.more (Rp.opl.slice.bnd hown.readFrom) (fun k hk => ⟨by rcases hk.1 with h | h <;> exact h,hk.2⟩)
 have hol := h4.ops
 rw [hnl] at hol
 have hnew : ∀ k,(w3.heap.size ≤ k ∧ k < w4.heap.size) → k < w4.heap.size ∧ ¬ T3 l b1 b2 k ∧ (Value.slice A L.ops.length c).ownBlock ≠ some k ∧ lv.ownBlock ≠ some k := by
  intro k hk
  have hlt := HB.out.footlt k
  have h3 := HSZ3.out
  refine ⟨hk.2,fun h => ?_,fun h => ?_,fun h => ?_⟩
  · have := hlt (.inl h);omega
  · have := hlt (.inr (.inl h));omega
  · have := hlt (.inr (.inr (.inl h)));omega
 have H4 := Lib.hid h4
 have HSRC := Lib.hid hsrc
 have HOL := Lib.hid hol
 have HNEW := Lib.hid hnew
 have HSO : Hid (∀ k,(Value.slice A n c).ownBlock = some k → ¬ (S k ∨ (w3.heap.size ≤ k ∧ k < w4.heap.size))) := Lib.hid (by
  rw [← hnl]
  rintro k hk (h | h)
  · exact h4.so k hk h
  · exact (hnew k h).2.2.1 hk)
 clear hown hk4 h4 hsrc hol hnew k5c HRD HOH
 go_wp2_with fail
 (refine ⟨?anew,?_⟩;case anew => ((repeat (refine Reg.anew_cons rfl rfl (fun _ => by go_simp) ?_));exact Reg.anew_nil))
 refine Reg.act rfl ?_
 refine wpList_append_rp (E := Rp.opl) rfl _ (.tmp 24) (.tmp 27) 37 rfl 0 36 96 el_op (fun k => S k ∨ (w3.heap.size ≤ k ∧ k < w4.heap.size)) (.slice A n c) L.ops rfl ?d0 A1 c1 (fun k => w3.heap.size ≤ k ∧ k < w4.heap.size) [o2] rfl HSRC.out Rp.opl_one ?d1 ?d2 (Nat.zero_le _) (fun _ h => .inr h) ?d3 ?_
 case d0 => exact HOL.out.mono (Nat.le_refl _) (fun _ h => .inl h)
 case d1 => simp [maxLen];omega
 case d2 => simp;omega
 case d3 => exact HSO.out
 intro v5 w5 hown5 hg5 hb5
 obtain ⟨A5,c5,rfl⟩ := hown5.shape
 have hk5 : Kp (fun k => (Value.slice A n c).ownBlock = some k) w4 w5 := (Kp.refl _ _).grown hg5 (fun g hg _ => hg)
 rw [← hnl] at hg5 hb5 hk5
 have hb5l := H4.out.fat.blk.kept hk5 (fun e => H4.out.ol l e (.inl rfl))
 have k5e := Blk.cell hb5l (i := 5) rfl
 have f5e := Blk.fr hb5l 5
 obtain ⟨h6,hk6⟩ := H4.out.grown HNEW.out hown5 hg5 hb5
 have hlen : (L.ops ++ [o2]).length = n + 1 := by rw [List.length_append,hnl];rfl
 rw [hlen] at h6 hk6
 have H6 := Lib.hid h6
 have HK6 : Hid (Kp (fun k => k = l ∨ (Value.slice A L.ops.length c).ownBlock = some k) w _) := Lib.hid ((HKB.out.trans' HK4.out).any.trans' hk6)
 have HW3 : Hid (w.heap.size ≤ w3.heap.size) := Lib.hid (by have h1 := HKB.out.size;have h2 := HSZ3.out;omega)
 have HW3b : Hid (wb.heap.size ≤ w3.heap.size) := Lib.hid (by have h2 := HSZ3.out;omega)
 have HB5 : Hid (∀ k,(Value.slice A5 (n + 1) c5).ownBlock = some k → (Value.slice A L.ops.length c).ownBlock = some k ∨ w.heap.size ≤ k) := Lib.hid (by
  intro k hk
  rw [hlen] at hb5
  rcases hb5 with h | h
  · exact .inl (h ▸ hk)
  · rw [h] at hk
    injection hk with hk
    have := (HKB.out.trans' HK4.out).size
    exact .inr (by omega))
 have HK5 := Lib.hid hk5
 rw [hlen]
 clear h6 hk6 hown5 hg5 hb5 hk5 hb5l HSRC HOL HNEW HSO k5d HK3 HSZ3 HB
 go_wp2_with fail
 (refine ⟨?anew,?_⟩;case anew => ((repeat (refine Reg.anew_cons rfl rfl (fun _ => by go_simp) ?_));exact Reg.anew_nil))
 repeat (first | (refine Reg.look rfl rfl rfl (by go_simp;rfl) rfl ?_;go_simp) | (refine Reg.skip rfl rfl rfl ?_;go_simp))
 refine Reg.act rfl ?_
 go_wp2_with fail
 (refine ⟨?anew,?_⟩;case anew => ((repeat (refine Reg.anew_cons rfl rfl (fun _ => by go_simp) ?_));exact Reg.anew_nil))
 repeat (first | (refine Reg.look rfl rfl rfl (by go_simp;rfl) rfl ?_;go_simp) | (refine Reg.skip rfl rfl rfl ?_;go_simp))
 (refine Reg.done ?_;simp only [Exit.then])
 obtain ⟨w6,hw6⟩ : ∃ w6,w5.setCell ⟨l,5,none⟩ (.slice A5 (n + 1) c5) = w6 := ⟨_,rfl⟩
 rw [hw6] at H6 HK6
 rw [hw6]
 have HX6 : Hid (Blk w6 x 36 [.int .i64 ((n : Int) + 1),.int .i64 ep,.int .i64 ok,.int .i64 st,.int .i64 oc,.int .i64 oq,.string onm,.int .i64 osz,.slice Ah ohs.length ch]) := Lib.hid (by
  have h4 := HBXB.out.kept HK4.out (fun x => x)
  have h5 := h4.kept HK5.out (fun e => by have := H.out.footlt x (.inr (.inl e));omega)
  rw [← hw6]
  exact h5.kept ((Kp.refl (· = l) w5).setCell (p := ⟨l,5,none⟩) (fun _ => rfl) _) (fun e => hlx1 e.symm))
 have HD6 : Hid (Blk w6 (x + 1) 44 [.int .i64 0,.int .i64 0,.int .i64 0]) := Lib.hid (by
  have h4 := HBDB.out.kept HK4.out (fun x => x)
  have h5 := h4.kept HK5.out (fun e => by have := H.out.footlt (x + 1) (.inr (.inl e));omega)
  rw [← hw6]
  exact h5.kept ((Kp.refl (· = l) w5).setCell (p := ⟨l,5,none⟩) (fun _ => rfl) _) (fun e => HLX.out.2 e.symm))
 clear hw6 k5e f5e HK5
 have hgat : (L.ops ++ [o2])[n]? = some o2 := by rw [← hnl];simp
 have h6o := H6.out.ops
 simp only at h6o
 rw [← hlen] at h6o
 obtain ⟨g,A6,c6,rfl,_,_,hcell,_,_,hrd6⟩ := Own.at_opl h6o hgat
 have z0 : w6.cell? ⟨g,n * 9,none⟩ = some _ := hcell 0 _ rfl
 have z1 : w6.cell? ⟨g,n * 9 + 1,none⟩ = some _ := hcell 1 _ rfl
 have z2 : w6.cell? ⟨g,n * 9 + 2,none⟩ = some _ := hcell 2 _ rfl
 have z3 : w6.cell? ⟨g,n * 9 + 3,none⟩ = some _ := hcell 3 _ rfl
 have z4 : w6.cell? ⟨g,n * 9 + 4,none⟩ = some _ := hcell 4 _ rfl
 have z5 : w6.cell? ⟨g,n * 9 + 5,none⟩ = some _ := hcell 5 _ rfl
 have z6 : w6.cell? ⟨g,n * 9 + 6,none⟩ = some _ := hcell 6 _ rfl
 have z7 : w6.cell? ⟨g,n * 9 + 7,none⟩ = some _ := hcell 7 _ rfl
 have z8 : w6.cell? ⟨g,n * 9 + 8,none⟩ = some _ := hcell 8 _ rfl
 have k5 : w6.cell? ⟨l,5,none⟩ = some (.slice (some ⟨g,0,none⟩) (n + 1) c5) := Blk.cell H6.out.fat.blk rfl
 have HRD6 := Lib.hid hrd6
 have hwn : IntKind.i64.wrap (n : Int) = (n : Int) := by rw [IntKind.wrap_i64];omega
 have hnlt : (n : Int) < (n : Int) + 1 := by omega
 clear hgat h6o hcell hrd6
 go_upto_region 3 with fail
 refine Reg.wp_region_plan [⟨0,false,[]⟩,⟨1,false,[]⟩,⟨2,false,[]⟩,⟨3,false,[]⟩,⟨4,false,[]⟩,⟨5,false,[]⟩,⟨6,false,[]⟩,⟨7,false,[]⟩,⟨8,false,[]⟩,⟨9,false,[]⟩,⟨10,false,[]⟩,⟨11,false,[]⟩,⟨12,false,[]⟩,⟨13,false,[]⟩,⟨14,false,[]⟩,⟨15,true,[1,2]⟩,⟨16,true,[]⟩] rfl (by kernel_rfl) ?_
 repeat (first | (refine Reg.look rfl rfl rfl (by go_simp;rfl) rfl ?_;go_simp) | (refine Reg.skip rfl rfl rfl ?_;go_simp))
 refine Reg.act rfl ?_
 go_wp2_with fail
 obtain ⟨w7,hw7⟩ : ∃ w7,(w6.alloc (.cells #[.int .i64 o2.n,.int .i64 o2.epoch,.int .i64 o2.kind,.int .i64 o2.site,.int .i64 o2.client,.int .i64 o2.seq,.string o2.name,.int .i64 o2.size,.slice A6 o2.hashes.length c6] 36)).drew = w7 := ⟨_,rfl⟩
 have hk7 : Kp No w6 w7 := by rw [← hw7];exact ((Kp.refl _ _).alloc _).drew
 have hone : Own Rp.opl w7 (fun k => S k ∨ w3.heap.size ≤ k ∧ k < w4.heap.size) w6.heap.size 36 (.slice (some ⟨w6.heap.size,0,none⟩) 1 1) [o2] := by
  rw [← hw7]
  exact (Own.one w6 o2 (.slice A6 o2.hashes.length c6) _ HN2.out HRD6.out rfl).keptNo ((Kp.refl _ _).drew)
 have H7 := Lib.hid (H6.out.keptNo hk7)
 have HX7 := Lib.hid (HX6.out.kept hk7 (fun x => x))
 have HD7 := Lib.hid (HD6.out.kept hk7 (fun x => x))
 have HK7 := Lib.hid (HK6.out.trans hk7 (fun _ _ e => e.elim))
 have HONE := Lib.hid hone
 have k5f : w7.cell? ⟨l,5,none⟩ = some (.slice (some ⟨g,0,none⟩) (n + 1) c5) := Blk.cell H7.out.fat.blk rfl
 rw [hw7]
 clear hw7 hk7 hone H6 HX6 HD6 HK6 z0 z1 z2 z3 z4 z5 z6 z7 z8 k5 HRD6
 (refine ⟨?anew,?_⟩;case anew => ((repeat (refine Reg.anew_cons rfl rfl (fun _ => by go_simp) ?_));exact Reg.anew_nil))
 refine Reg.act rfl ?_
 go_wp2_with fail
 refine (c_take [o2] (some ⟨w6.heap.size,0,none⟩) 1 l _ b1 b2 _ L.fold n w6.heap.size w7 H7.out.fat (by rw [← hnl];exact HF.out) HONE.out (by intro o ho;simp only [List.mem_cons,List.not_mem_nil,or_false] at ho;subst ho;rw [← HO2.out];exact HSZ.out) (by simp;omega)).mono ?_
 rintro e w8 ⟨rfl,hf8,_,hk8⟩
 have h8 := H7.out.took hf8 hk8
 have h8x := HX7.out.kept hk8 (fun e => by have := H.out.footlt x (.inl e);omega)
 have h8d := HD7.out.kept hk8 (fun e => by have := H.out.footlt (x + 1) (.inl e);omega)
 have H8 := Lib.hid h8
 have HX8 := Lib.hid h8x
 have HD8 := Lib.hid h8d
 have HK8 : Hid (Kp (Foot l b1 b2 (.slice A L.ops.length c) lv S) w w8) := Lib.hid ((HK7.out.mono (fun k _ e => by
  rcases e with e | e
  · exact .inl (.inl e)
  · exact .inr (.inl e))).trans hk8 (fun _ _ e => .inl e))
 clear hf8 hk8 h8 h8d H7 HX7 HD7 HK7 HONE k5f
 go_wp2_with fail
 (refine ⟨?anew,?_⟩;case anew => ((repeat (refine Reg.anew_cons rfl rfl (fun _ => by go_simp) ?_));exact Reg.anew_nil))
 (refine Reg.done ?_;simp only [Exit.then])
 have y0 : w8.cell? ⟨x,0,none⟩ = some _ := Blk.cell h8x rfl
 have y1 : w8.cell? ⟨x,1,none⟩ = some _ := Blk.cell h8x rfl
 have y2 : w8.cell? ⟨x,2,none⟩ = some _ := Blk.cell h8x rfl
 have y3 : w8.cell? ⟨x,3,none⟩ = some _ := Blk.cell h8x rfl
 have y4 : w8.cell? ⟨x,4,none⟩ = some _ := Blk.cell h8x rfl
 have y5 : w8.cell? ⟨x,5,none⟩ = some _ := Blk.cell h8x rfl
 have y6 : w8.cell? ⟨x,6,none⟩ = some _ := Blk.cell h8x rfl
 have y7 : w8.cell? ⟨x,7,none⟩ = some _ := Blk.cell h8x rfl
 have y8 : w8.cell? ⟨x,8,none⟩ = some _ := Blk.cell h8x rfl
 clear h8x
 go_wp2_with fail
 refine (l_spot ⟨(n : Int) + 1,ep,ok,st,oc,oq,onm,osz,ohs⟩ (.slice Ah ohs.length ch) w8).mono ?_
 rintro e w9 ⟨rfl,hk9⟩
 have hd9 := HD8.out.kept hk9 (fun x => x)
 have g0 := Blk.fr hd9 0
 have g1 := Blk.fr hd9 1
 have g2 := Blk.fr hd9 2
 have u0 : w9.cell? ⟨x + 1,0,none⟩ = some _ := Blk.cell hd9 rfl
 have u1 : w9.cell? ⟨x + 1,1,none⟩ = some _ := Blk.cell hd9 rfl
 have u2 : w9.cell? ⟨x + 1,2,none⟩ = some _ := Blk.cell hd9 rfl
 have H9 := Lib.hid (H8.out.keptNo hk9)
 have HD9 := Lib.hid hd9
 have HK9 := Lib.hid (HK8.out.trans hk9 (fun _ _ e => e.elim))
 clear hk9 hd9 H8 HX8 HD8 HK8 y0 y1 y2 y3 y4 y5 y6 y7 y8
 go_wp2_with fail
 obtain ⟨wf,hwf⟩ : ∃ wf,((w9.setCell ⟨x + 1,0,none⟩ (.int .i64 0)).setCell ⟨x + 1,1,none⟩ (.int .i64 ((n : Int) + 1))).setCell ⟨x + 1,2,none⟩ (.int .i64 ep) = wf := ⟨_,rfl⟩
 have hkf : Kp (· = x + 1) w9 wf := by rw [← hwf];exact (((Kp.refl (· = x + 1) w9).setCell (p := ⟨x + 1,0,none⟩) (fun _ => rfl) _).setCell (p := ⟨x + 1,1,none⟩) (fun _ => rfl) _).setCell (p := ⟨x + 1,2,none⟩) (fun _ => rfl) _
 have hbf : Blk wf (x + 1) 44 [.int .i64 0,.int .i64 ((n : Int) + 1),.int .i64 ep] := by rw [← hwf];exact Blk.set (Blk.set (Blk.set HD9.out 0 (.int .i64 0)) 1 (.int .i64 ((n : Int) + 1))) 2 (.int .i64 ep)
 rw [hwf]
 have hputv : doneV (putL ⟨on,oe,ok,os,oc,oq,onm,osz,ohs⟩ ep st L).1 = .agg #[.int .i64 0,.int .i64 ((n : Int) + 1),.int .i64 ep] := by
  show Value.agg #[.int .i64 0,.int .i64 ((L.ops.length : Int) + 1),.int .i64 ep] = _
  rw [hnl]
 have hput2 : (putL ⟨on,oe,ok,os,oc,oq,onm,osz,ohs⟩ ep st L).2 = { L with ops := L.ops ++ [o2] } := by
  rw [← HO2.out,← hnl];rfl
 have hfold : ({ L with ops := L.ops ++ [o2] } : LV).fold = L.fold.take [o2] := FV.take_snoc _ _ _
 rw [hputv,hput2,hfold]
 have hfoot : ∀ k,Foot l b1 b2 (.slice (some ⟨g,0,none⟩) (n + 1) c5) lv (fun k => S k ∨ w3.heap.size ≤ k ∧ k < w4.heap.size) k → k ≠ x + 1 := by
  have hlt := H.out.footlt
  rintro k (hk | hk | hk | hk | hk) e
  · have := hlt k (.inl hk);omega
  · obtain ⟨cs,h1⟩ := H9.out.ops.block hk
    have h2 := HD9.out
    unfold Blk at h2
    rw [e,h2] at h1
    injection h1 with h1
    injection h1 with _ h1
    exact absurd h1 (by decide)
  · have := hlt k (.inr (.inr (.inl hk)));omega
  · have := hlt k (.inr (.inr (.inr hk)));omega
  · have h1 := HXW.out
    have h2 := HW3b.out
    omega
 have hfin : LIn wf l b1 b2 (.slice (some ⟨g,0,none⟩) (n + 1) c5) lv _ (L.fold.take [o2]) { L with ops := L.ops ++ [o2] } := H9.out.kept hkf hfoot
 have hkw : Kp (Foot l b1 b2 (.slice A L.ops.length c) lv S) w wf := HK9.out.trans hkf (fun i hi e => absurd hi (by omega))
 have hupd : Upd (Foot l b1 b2 (.slice A L.ops.length c) lv S) w wf (Foot l b1 b2 (.slice (some ⟨g,0,none⟩) (n + 1) c5) lv (fun k => S k ∨ w3.heap.size ≤ k ∧ k < w4.heap.size)) := ⟨hkw,by
  rintro k (hk | hk | hk | hk | hk)
  · exact .inl (.inl hk)
  · rcases HB5.out k hk with h | h
    · exact .inl (.inr (.inl h))
    · exact .inr h
  · exact .inl (.inr (.inr (.inl hk)))
  · exact .inl (.inr (.inr (.inr hk)))
  · exact .inr (Nat.le_trans HW3.out hk.1)⟩
 clear hwf u0 u1 u2 g0 g1 g2 hputv hput2 hfold hfoot H9 HD9 HK9 hkw hkf HB5 HW3 HW3b HXW
 exact bodyPost_ret (results_cell_row rfl _ _ (x + 1) _ _ _ _ rfl hbf Tryz.underlying44 rfl (by kernel_rfl)) rfl ⟨rfl,_,_,hfin,hupd⟩
end
end Go.Proofs.YtjlbacfedfkilaaGreat
