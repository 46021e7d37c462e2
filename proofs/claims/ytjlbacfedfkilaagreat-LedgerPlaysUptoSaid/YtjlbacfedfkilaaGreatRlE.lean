/-
  The document's ledger: put (a text into a rising list).
-/
import Derived.Test.YtjlbacfedfkilaaGreatGL
import Derived.Test.YtjlbacfedfkilaaGreatAppF
import Derived.Test.YtjlbacfedfkilaaGreatGI
import Derived.BigQuiet
import Derived.Deep.DeepCutAuto
namespace Go.Proofs.YtjlbacfedfkilaaGreat
open Go.RowKit Go.ChangeShapes Go.WideShapes Go.ChangeAt
theorem less_nltR (a b : ByteArray) : Op.bytesLess a.toList b.toList = decide (nlt a b) := by
 rw [bytesLess_eq,Lib.toList_data,Lib.toList_data];rfl
def insK (k : Nat) (nm : ByteArray) (out : List ByteArray) : List ByteArray := if out[k]? = some nm then out else out.take k ++ nm :: out.drop k
def AtK (k : Nat) (nm : ByteArray) (out : List ByteArray) : Prop := k ≤ out.length ∧ (∀ j x,j < k → out[j]? = some x → nlt x nm) ∧ (k = out.length ∨ ∃ d,out[k]? = some d ∧ ¬ nlt d nm)
def OutV (g0 : Nat) (wr : World) (ov : Value) (out : List ByteArray) : Prop := (out = [] ∧ ov = .slice none 0 0) ∨ ∃ ad c,ov = .slice (some ad) out.length c ∧ 0 < out.length ∧ Rp.str.slice.R wr (fun k => g0 ≤ k) [.slice (some ad) out.length c] out
theorem OutV.read {g0 : Nat} {wr : World} {ov : Value} {out : List ByteArray} (h : OutV g0 wr ov out) : ∃ A c,ov = .slice A out.length c ∧ Rp.str.slice.R wr (fun k => g0 ≤ k) [.slice A out.length c] out := by
 rcases h with ⟨rfl,rfl⟩ | ⟨ad,c,rfl,_,h⟩
 · exact ⟨none,0,rfl,Rp.none_ _ _ _⟩
 · exact ⟨some ad,c,rfl,h⟩
theorem OutV.keptNo {g0 : Nat} {wr w' : World} {ov : Value} {out : List ByteArray} (h : OutV g0 wr ov out) (hk : Kp No wr w') : OutV g0 w' ov out := by
 rcases h with h | ⟨ad,c,h1,h2,h3⟩
 · exact .inl h
 · exact .inr ⟨ad,c,h1,h2,Rp.str.slice.keptNo h3 hk⟩
set_option maxRecDepth 100000 in
set_option maxHeartbeats 8000000 in
theorem r_lput (g0 : Nat) (ov : Value) (out : List ByteArray) (s : ByteArray) (w : World) (hov : OutV g0 w ov out) (hg : g0 ≤ w.heap.size) (hol : (out.length : Int) ≤ 1000000) (hs : s.size ≤ maxLen) :
 Calls Tryz.prog 105 #[ov,.string s] w fun e w' => ∃ k ov',AtK k s out ∧ e = .returned ov' ∧ OutV g0 w' ov' (insK k s out) ∧ Kp No w w' := by
 obtain ⟨Ao,co,rfl,hro⟩ := hov.read
 have HRO := Lib.hid hro
 have HOV := Lib.hid hov
 have HG0 := Lib.hid hg
 have HNS := Lib.hid hs
 have HAO : Hid (∀ w',Kp No w w' → ∀ (j : Nat) x,out[j]? = some x → ∃ ado,Ao = some ado ∧ w'.cell? (ado.add j) = some (.string x)) := Lib.hid (fun w' hk j x hx => by
  obtain ⟨ado,h1,_,h2,_⟩ := Rp.at_str (Rp.str.slice.keptNo HRO.out hk) hx
  exact ⟨ado,h1,h2⟩)
 clear hro hov hg hs
 go_enter Tryz.func105,Tryz.ntmps105
 go_wp2_with fail
 go_loopw [5] (fun kv wx => ∃ k : Nat,k ≤ out.length ∧ kv = .int .i64 (k : Int) ∧ Hid (∀ j x,j < k → out[j]? = some x → nlt x s) ∧ Hid (Kp No w wx)) (fun kv _ => out.length - (intOf kv).toNat)
 case atStart => exact ⟨0,Nat.zero_le _,rfl,Lib.hid (fun j x hj => absurd hj (by omega)),Lib.hid (Kp.refl _ _)⟩
 case round =>
  obtain ⟨k,hk,rfl,HLO,HKX⟩ := hrel
  obtain ⟨CB,HCB⟩ : ∃ CB : Bool,Hid ((CB = true ∧ ∃ x,out[k]? = some x ∧ nlt x s) ∨ (CB = false ∧ AtK k s out)) := by
   by_cases hkt : k < out.length
   · obtain ⟨x,hx⟩ : ∃ x,out[k]? = some x := ⟨_,List.getElem?_eq_getElem hkt⟩
     by_cases hlx : nlt x s
     · exact ⟨true,Lib.hid (.inl ⟨rfl,x,hx,hlx⟩)⟩
     · exact ⟨false,Lib.hid (.inr ⟨rfl,by omega,HLO.out,.inr ⟨x,hx,hlx⟩⟩)⟩
   · exact ⟨false,Lib.hid (.inr ⟨rfl,hk,HLO.out,.inl (by omega)⟩)⟩
  go_upto_region 2 with fail
  go_cut [18] (fun bv wx => bv = .bool CB ∧ Hid (Kp No wr wx))
  case first =>
   by_cases hkt : k < out.length
   case neg =>
    obtain rfl : k = out.length := by omega
    obtain rfl : CB = false := by
     rcases HCB.out with ⟨_,x,h,_⟩ | h
     · simp at h
     · exact h.1
    clear hk hkt
    go_wp2_with fail
    go_meet
    exact ⟨rfl,Lib.hid (Kp.refl _ _)⟩
   case pos =>
    have hki : (k : Int) < (out.length : Int) := by omega
    obtain ⟨x,hx⟩ : ∃ x,out[k]? = some x := ⟨_,List.getElem?_eq_getElem hkt⟩
    obtain ⟨ado,hado,hcx⟩ := HAO.out wr HKX.out k x hx
    subst hado
    by_cases hlx : nlt x s
    case pos =>
     have hb : Op.bytesLess x.toList s.toList = true := by rw [less_nltR];exact decide_eq_true hlx
     obtain rfl : CB = true := by
      rcases HCB.out with h | ⟨_,_,_,h | ⟨y,h1,h2⟩⟩
      · exact h.1
      · omega
      · rw [hx] at h1;injection h1 with h1;exact absurd (h1 ▸ hlx) h2
     clear hlx hx
     go_wp2_with fail
     go_meet
     exact ⟨rfl,Lib.hid (Kp.refl _ _)⟩
    case neg =>
     have hb : Op.bytesLess x.toList s.toList = false := by rw [less_nltR];exact decide_eq_false hlx
     obtain rfl : CB = false := by
      rcases HCB.out with ⟨_,y,h1,h2⟩ | h
      · rw [hx] at h1;injection h1 with h1;exact absurd (h1 ▸ h2) hlx
      · exact h.1
     clear hlx hx
     go_wp2_with fail
     go_meet
     exact ⟨rfl,Lib.hid (Kp.refl _ _)⟩
  case rest =>
   obtain ⟨rfl,HKY⟩ := hcut
   have HKD := Lib.hid (HKX.out.trans' HKY.out)
   cases CB
   case true =>
    obtain ⟨x,hx,hlx⟩ : ∃ x,out[k]? = some x ∧ nlt x s := by
     rcases HCB.out with h | h
     · exact h.2
     · cases h.1
    have hkt : k < out.length := (List.getElem?_eq_some_iff.1 hx).1
    have HLO2 : Hid (∀ j q,j < k + 1 → out[j]? = some q → nlt q s) := Lib.hid (fun j q hj hq => by
     rcases Nat.lt_or_ge j k with h | h
     · exact HLO.out j q h hq
     · obtain rfl : j = k := by omega
       rw [hx] at hq;injection hq with hq
       rw [← hq];exact hlx)
    clear hx hlx
    go_wp2_with fail
    go_roundw
    case rel => exact ⟨k + 1,by omega,by go_num,HLO2,HKD⟩
    case measure => simp [intOf];omega
   case false =>
    have HAK : Hid (AtK k s out) := Lib.hid (by
     rcases HCB.out with h | h
     · cases h.1
     · exact h.2)
    clear HCB HLO
    go_upto_region 4 with fail
    obtain ⟨w9,rfl⟩ : ∃ v,v = wc := ⟨_,rfl⟩
    obtain ⟨DB,hDB⟩ : ∃ v,decide (out[k]? = some s) = v := ⟨_,rfl⟩
    have HDB := Lib.hid hDB
    clear hDB
    go_cut [32] (fun bv wx => bv = .bool DB ∧ Hid (Kp No w9 wx))
    case first =>
     by_cases hkt : k < out.length
     case neg =>
      obtain rfl : k = out.length := by omega
      obtain rfl : DB = false := by rw [← HDB.out];simp
      clear hk hkt
      go_wp2_with fail
      go_meet
      exact ⟨rfl,Lib.hid (Kp.refl _ _)⟩
     case pos =>
      have hki : (k : Int) < (out.length : Int) := by omega
      obtain ⟨x,hx⟩ : ∃ x,out[k]? = some x := ⟨_,List.getElem?_eq_getElem hkt⟩
      obtain ⟨ado,hado,hcx⟩ := HAO.out w9 HKD.out k x hx
      subst hado
      by_cases hxe : x = s
      case pos =>
       have hb : (x.toList == s.toList) = true := by rw [bytes_list_beq];exact decide_eq_true hxe
       obtain rfl : DB = true := by rw [← HDB.out,hx,hxe];simp
       clear hxe hx
       go_wp2_with fail
       go_meet
       exact ⟨rfl,Lib.hid (Kp.refl _ _)⟩
      case neg =>
       have hb : (x.toList == s.toList) = false := by rw [bytes_list_beq];exact decide_eq_false hxe
       obtain rfl : DB = false := by rw [← HDB.out,hx];simp [hxe]
       clear hxe hx
       go_wp2_with fail
       go_meet
       exact ⟨rfl,Lib.hid (Kp.refl _ _)⟩
    case rest =>
     obtain ⟨rfl,HKE⟩ := hcut
     have HKG := Lib.hid (HKD.out.trans' HKE.out)
     have HOVE := Lib.hid (HOV.out.keptNo HKG.out)
     cases DB
     case true =>
      have hio : insK k s out = out := by
       unfold insK
       rw [if_pos (by have := HDB.out;simpa using this)]
      have HIO := Lib.hid hio
      clear hio
      go_wp2_with fail
      go_ret
      exact ⟨k,_,HAK.out,rfl,by rw [HIO.out];exact HOVE.out,HKG.out⟩
     case false =>
      have hio : insK k s out = out.take k ++ s :: out.drop k := by
       unfold insK
       rw [if_neg (by have := HDB.out;simpa using this)]
      go_upto_region 6 with fail
      obtain ⟨wx,rfl⟩ : ∃ v,v = wc := ⟨_,rfl⟩
      obtain ⟨m,hm⟩ : ∃ v,out.drop k = v := ⟨_,rfl⟩
      obtain ⟨T,hT⟩ : ∃ v,out.take k = v := ⟨_,rfl⟩
      have hml : out.length - k = m.length := by rw [← hm,List.length_drop]
      have hkl : k ≤ out.length := HAK.out.1
      have HTL : Hid (T.length = k) := Lib.hid (by rw [← hT,List.length_take];omega)
      have HMD := Lib.hid hm
      have HTD := Lib.hid hT
      rw [hm,hT] at hio
      have HIO := Lib.hid hio
      clear hm hT hio
      go_cut [6] (fun rv wy => ∃ A13 c13,rv = .slice A13 m.length c13 ∧ Hid (Own Rp.str wy No wx.heap.size 9 (.slice A13 m.length c13) m) ∧ Hid (Kp No wx wy))
      case first =>
       have hkI : (k : Int) ≤ (out.length : Int) := by omega
       have hmb : m.length ≤ 1000000 := by omega
       rcases HOVE.out with ⟨ho1,ho2⟩ | ⟨ado,c0,ho1,ho2,ho3⟩
       · subst ho1
         injection ho2 with e1 e2 e3
         subst e1 e3
         obtain rfl : k = 0 := by simpa using hkl
         obtain rfl : m = [] := by rw [← HMD.out];rfl
         simp only [List.length_nil]
         have HM : Hid (Rp.str.slice.R wx (fun k => g0 ≤ k) [.slice none ([] : List ByteArray).length 0] []) := Lib.hid (Rp.none_ _ _ _)
         clear hml hkl hkI hmb
         go_wp2_with (at_builtin;refine wpList_copy_lit (E := Rp.str) rfl wx (.tmp 34) (.tmp 37) 32 rfl 9 16 el_strL rfl none 0 (fun k => g0 ≤ k) [] rfl HM.out Rp.str_one (by simp) ?_)
         intro A13 c13 w13 hown hk13
         have HO := Lib.hid (hown.str_any No)
         have HK := Lib.hid hk13
         clear hown hk13
         go_wp2_with fail
         go_meet
         exact ⟨A13,c13,rfl,HO,HK⟩
       · injection ho1 with e1 e2 e3
         subst e1 e3
         by_cases hck : co = k
         · have hcl : out.length ≤ co := by
            obtain ⟨_,_,he,h1,_⟩ := ho3
            simp only [List.cons.injEq,Value.slice.injEq,and_true] at he
            omega
           subst hck
           obtain rfl : m = [] := List.eq_nil_of_length_eq_zero (by omega)
           have hcc : co - co = 0 := Nat.sub_self co
           have HM : Hid (Rp.str.slice.R wx (fun k => g0 ≤ k) [.slice (some ado) ([] : List ByteArray).length 0] []) := Lib.hid ⟨_,_,rfl,Nat.le_refl _,by simp,fun h => absurd h (by simp)⟩
           simp only [List.length_nil] at hml ⊢
           clear ho3 ho2 hmb hcl
           go_wp2_with (at_builtin;refine wpList_copy_lit (E := Rp.str) rfl wx (.tmp 34) (.tmp 37) 32 rfl 9 16 el_strL rfl (some ado) 0 (fun k => g0 ≤ k) [] rfl HM.out Rp.str_one (by simp) ?_)
           intro A13 c13 w13 hown hk13
           have HO := Lib.hid (hown.str_any No)
           have HK := Lib.hid hk13
           clear hown hk13
           go_wp2_with fail
           go_meet
           exact ⟨A13,c13,rfl,HO,HK⟩
         · have HM : Hid (Rp.str.slice.R wx (fun k => g0 ≤ k) [.slice (some (ado.add k)) m.length (co - k)] m) := Lib.hid (by
            have h1 := Rp.cut ho3 hkl
            rw [HMD.out,show k * Rp.str.size = k from Nat.mul_one k] at h1
            exact h1)
           clear ho3 ho2
           go_wp2_with (at_builtin;refine wpList_copy_lit (E := Rp.str) rfl wx (.tmp 34) (.tmp 37) 32 rfl 9 16 el_strL rfl (some (ado.add k)) (co - k) (fun k => g0 ≤ k) m rfl HM.out Rp.str_one (by omega) ?_)
           intro A13 c13 w13 hown hk13
           have HO := Lib.hid (hown.str_any No)
           have HK := Lib.hid hk13
           clear hown hk13
           go_wp2_with fail
           go_meet
           exact ⟨A13,c13,rfl,HO,HK⟩
      case rest =>
       obtain ⟨A13,c13,rfl,HO13,HKH⟩ := hcut
       have HML : Hid (m.length ≤ 1000000) := Lib.hid (by omega)
       have HKO : Hid (k ≤ 1000000) := Lib.hid (by omega)
       have HML2 : Hid (m.length + k = out.length) := Lib.hid (by omega)
       rcases HOVE.out with ⟨ho1,ho2⟩ | ⟨ado,c0,ho1,ho2,ho3⟩
       · subst ho1
         injection ho2 with e1 e2 e3
         subst e1 e3
         obtain rfl : k = 0 := by simpa using hkl
         have HT14 : Hid (∀ w',Kp No wx w' → Rp.str.slice.R w' (fun k => g0 ≤ k) [.slice none T.length T.length] T) := Lib.hid (fun w' _ => by
          obtain rfl : T = [] := List.eq_nil_of_length_eq_zero HTL.out
          exact Rp.none_ _ _ _)
         obtain rfl : m = [] := by rw [← HMD.out];rfl
         simp only [List.length_nil]
         clear hml
         go_upto_region 7 with fail
         obtain ⟨wd,hwd⟩ : ∃ v,wc = v := ⟨_,rfl⟩
         have hkd : Kp No wc wd := by rw [← hwd];exact Kp.refl _ _
         obtain ⟨g14,hg14⟩ : ∃ v,wd.heap.size = v := ⟨_,rfl⟩
         obtain ⟨w14,hw14⟩ : ∃ v,wd.alloc (.cells #[.string s] 9) = v := ⟨_,rfl⟩
         have hk14 : Kp No wd w14 := by rw [← hw14];exact (Kp.refl _ _).alloc _
         have hsz14 : w14.heap.size = g14 + 1 := by rw [← hw14,← hg14];simp
         have hb14 : Blk w14 g14 9 [.string s] := by rw [← hw14,← hg14];exact Blk.new wd _ _
         have HKB := Lib.hid (HKH.out.trans' hkd)
         have HL14 : Hid (Rp.str.slice.R w14 (fun k => g0 ≤ k) [.slice (some ⟨g14,0,none⟩) 1 1] [s]) := Lib.hid (by
          refine ⟨_,_,rfl,Nat.le_refl _,by unfold maxLen;simp,fun _ => ⟨_,rfl,(by have := (HKG.out.trans' HKB.out).size;have := HG0.out;show g0 ≤ g14;omega),fun i a hi => ?_⟩⟩
          obtain rfl : i = 0 := by have := (List.getElem?_eq_some_iff.1 hi).1;simp at this;exact this
          injection hi with hi
          subst hi
          refine ⟨[.string s],fun j u hu => ?_,rfl,HNS.out⟩
          rw [Addr.add_lit,Addr.add_lit]
          have h2 := hb14.cell hu
          simpa using h2)
         have HO14 := Lib.hid (HO13.out.keptNo (hkd.trans' hk14))
         have HS14 := Lib.hid hsz14
         have HK14 := Lib.hid (HKB.out.trans' hk14)
         clear hkd hk14 hb14 hsz14
         rw [hwd]
         clear hwd
         go_wp2_with (at_builtin;refine wpList_append_full (E := Rp.str) rfl w14 (.tmp 42) (.tmp 44) 32 rfl 9 16 el_strL (fun k => g0 ≤ k) none T (by rw [HTL.out];rfl) (HT14.out w14 (HK14.out)) (some ⟨g14,0,none⟩) 1 [s] rfl HL14.out (by simp) Rp.str_one (by have := HTL.out;have := HKO.out;simp [maxLen];omega) (by have := HTL.out;have := HKO.out;simp;omega) ?_)
         clear hw14 hg14
         intro A15 c15 w15 hown15 hk15
         have HO15 := Lib.hid (hown15.str_any (fun k => k < w14.heap.size))
         have HM15 := Lib.hid (Rp.str.slice.more (Rp.str.slice.bnd (HO14.out.keptNo hk15).readFrom) (fun _ h => h))
         have HM14 := Lib.hid (Rp.str.slice.keptNo (Rp.str.slice.more (Rp.str.slice.bnd HO14.out.readFrom) (fun k h => h.2)) hk15)
         have HK15 := Lib.hid hk15
         obtain ⟨n15,hn15⟩ : ∃ v,T.length + 1 = v := ⟨_,rfl⟩
         have HN15 := Lib.hid hn15
         rw [hn15] at HO15
         rw [hn15]
         clear hown15 hk15 hn15
         go_wp2_with (at_builtin;refine wpList_append_rp (E := Rp.str) rfl _ (.tmp 45) (.tmp 46) 32 rfl w14.heap.size 9 16 el_strL (fun k => k < w14.heap.size) (.slice A15 n15 c15) (T ++ [s]) rfl HO15.out A13 c13 (fun k => k < w14.heap.size) [] rfl HM14.out Rp.str_one (by have := HTL.out;have := HKO.out;have := HML.out;simp [maxLen];omega) (by have := HTL.out;have := HKO.out;have := HML.out;simp;omega) HK15.out.size (fun _ h => h) (fun k hk e => by have := (HO15.out.lt k hk).1;omega) ?_)
         intro v16 w16 hown16 hgr16 _
         have HLN : Hid ((T ++ [s]) ++ [] = T ++ s :: []) := Lib.hid (by simp)
         have hown16 : Own Rp.str w16 (fun k => k < w14.heap.size) w14.heap.size 9 v16 (T ++ s :: []) := by rw [← HLN.out];simpa using hown16
         have HKZ : Hid (Kp No w w16) := Lib.hid ((HKG.out.trans' (HK14.out.trans' HK15.out)).grown hgr16 (fun k hk hlt => by have h1 := (HO15.out.lt k hk).1;have h2 := (HKG.out.trans' HK14.out).size;omega))
         have HOV9 : Hid (OutV g0 w16 v16 (T ++ s :: [])) := Lib.hid (by
          obtain ⟨A16,c16,hsh⟩ := hown16.shape
          subst hsh
          have hr := Rp.str.slice.more (hown16.str_any No).readFrom (fun k hk => (by
           rcases hk with hk | hk
           · exact hk.elim
           · have := (HKG.out.trans' HK14.out).size;have := HG0.out;omega : g0 ≤ k))
          cases A16 with
          | none => have := nil_of_none hr;simp at this
          | some a16 => exact .inr ⟨a16,c16,rfl,by simp only [List.length_append,List.length_cons];omega,hr⟩)
         clear hown16 hgr16 HO15 HM14 HM15 HO14 HL14
         go_wp2_with fail
         go_ret
         rw [← HIO.out] at HOV9
         exact ⟨_,v16,HAK.out,rfl,HOV9.out,HKZ.out⟩
       · injection ho1 with e1 e2 e3
         subst e1 e3
         have hcl : out.length ≤ co := by
          obtain ⟨_,_,he,h1,_⟩ := ho3
          simp only [List.cons.injEq,Value.slice.injEq,and_true] at he
          omega
         have hj0 : (0 : Int) ≤ (k : Int) := by omega
         have hkc : (k : Int) ≤ (co : Int) := by omega
         have hkc2 : k ≤ co := by omega
         have HT14 : Hid (∀ w',Kp No wx w' → Rp.str.slice.R w' (fun k => g0 ≤ k) [.slice (some ado) T.length T.length] T) := Lib.hid (fun w' hk' => by
          have h1 := Rp.head (Rp.str.slice.keptNo ho3 hk') hkl
          rw [HTD.out] at h1
          obtain ⟨A9,c9,he,h2,h3,h4⟩ := h1
          simp only [List.cons.injEq,Value.slice.injEq,and_true,true_and] at he
          obtain ⟨rfl,rfl⟩ := he
          exact ⟨_,_,rfl,Nat.le_refl _,Nat.le_trans h2 h3,h4⟩)
         clear hml ho3
         go_upto_region 7 with fail
         obtain ⟨wd,hwd⟩ : ∃ v,wc = v := ⟨_,rfl⟩
         have hkd : Kp No wc wd := by rw [← hwd];exact Kp.refl _ _
         obtain ⟨g14,hg14⟩ : ∃ v,wd.heap.size = v := ⟨_,rfl⟩
         obtain ⟨w14,hw14⟩ : ∃ v,wd.alloc (.cells #[.string s] 9) = v := ⟨_,rfl⟩
         have hk14 : Kp No wd w14 := by rw [← hw14];exact (Kp.refl _ _).alloc _
         have hsz14 : w14.heap.size = g14 + 1 := by rw [← hw14,← hg14];simp
         have hb14 : Blk w14 g14 9 [.string s] := by rw [← hw14,← hg14];exact Blk.new wd _ _
         have HKB := Lib.hid (HKH.out.trans' hkd)
         have HL14 : Hid (Rp.str.slice.R w14 (fun k => g0 ≤ k) [.slice (some ⟨g14,0,none⟩) 1 1] [s]) := Lib.hid (by
          refine ⟨_,_,rfl,Nat.le_refl _,by unfold maxLen;simp,fun _ => ⟨_,rfl,(by have := (HKG.out.trans' HKB.out).size;have := HG0.out;show g0 ≤ g14;omega),fun i a hi => ?_⟩⟩
          obtain rfl : i = 0 := by have := (List.getElem?_eq_some_iff.1 hi).1;simp at this;exact this
          injection hi with hi
          subst hi
          refine ⟨[.string s],fun j u hu => ?_,rfl,HNS.out⟩
          rw [Addr.add_lit,Addr.add_lit]
          have h2 := hb14.cell hu
          simpa using h2)
         have HO14 := Lib.hid (HO13.out.keptNo (hkd.trans' hk14))
         have HS14 := Lib.hid hsz14
         have HK14 := Lib.hid (HKB.out.trans' hk14)
         clear hkd hk14 hb14 hsz14
         rw [hwd]
         clear hwd
         go_wp2_with (at_builtin;refine wpList_append_full (E := Rp.str) rfl w14 (.tmp 42) (.tmp 44) 32 rfl 9 16 el_strL (fun k => g0 ≤ k) (some ado) T (by rw [HTL.out];rfl) (HT14.out w14 (HK14.out)) (some ⟨g14,0,none⟩) 1 [s] rfl HL14.out (by simp) Rp.str_one (by have := HTL.out;have := HKO.out;simp [maxLen];omega) (by have := HTL.out;have := HKO.out;simp;omega) ?_)
         clear hw14 hg14
         intro A15 c15 w15 hown15 hk15
         have HO15 := Lib.hid (hown15.str_any (fun k => k < w14.heap.size))
         have HM15 := Lib.hid (Rp.str.slice.more (Rp.str.slice.bnd (HO14.out.keptNo hk15).readFrom) (fun _ h => h))
         have HM14 := Lib.hid (Rp.str.slice.keptNo (Rp.str.slice.more (Rp.str.slice.bnd HO14.out.readFrom) (fun k h => h.2)) hk15)
         have HK15 := Lib.hid hk15
         obtain ⟨n15,hn15⟩ : ∃ v,T.length + 1 = v := ⟨_,rfl⟩
         have HN15 := Lib.hid hn15
         rw [hn15] at HO15
         rw [hn15]
         clear hown15 hk15 hn15
         go_wp2_with (at_builtin;refine wpList_append_rp (E := Rp.str) rfl _ (.tmp 45) (.tmp 46) 32 rfl w14.heap.size 9 16 el_strL (fun k => k < w14.heap.size) (.slice A15 n15 c15) (T ++ [s]) rfl HO15.out A13 c13 (fun k => k < w14.heap.size) m rfl HM14.out Rp.str_one (by have := HTL.out;have := HKO.out;have := HML.out;simp [maxLen];omega) (by have := HTL.out;have := HKO.out;have := HML.out;simp;omega) HK15.out.size (fun _ h => h) (fun k hk e => by have := (HO15.out.lt k hk).1;omega) ?_)
         intro v16 w16 hown16 hgr16 _
         have HLN : Hid ((T ++ [s]) ++ m = T ++ s :: m) := Lib.hid (by simp)
         have hown16 : Own Rp.str w16 (fun k => k < w14.heap.size) w14.heap.size 9 v16 (T ++ s :: m) := by rw [← HLN.out];simpa using hown16
         have HKZ : Hid (Kp No w w16) := Lib.hid ((HKG.out.trans' (HK14.out.trans' HK15.out)).grown hgr16 (fun k hk hlt => by have h1 := (HO15.out.lt k hk).1;have h2 := (HKG.out.trans' HK14.out).size;omega))
         have HOV9 : Hid (OutV g0 w16 v16 (T ++ s :: m)) := Lib.hid (by
          obtain ⟨A16,c16,hsh⟩ := hown16.shape
          subst hsh
          have hr := Rp.str.slice.more (hown16.str_any No).readFrom (fun k hk => (by
           rcases hk with hk | hk
           · exact hk.elim
           · have := (HKG.out.trans' HK14.out).size;have := HG0.out;omega : g0 ≤ k))
          cases A16 with
          | none => have := nil_of_none hr;simp at this
          | some a16 => exact .inr ⟨a16,c16,rfl,by simp only [List.length_append,List.length_cons];omega,hr⟩)
         clear hown16 hgr16 HO15 HM14 HM15 HO14 HL14
         go_wp2_with fail
         go_ret
         rw [← HIO.out] at HOV9
         exact ⟨_,v16,HAK.out,rfl,HOV9.out,HKZ.out⟩
end Go.Proofs.YtjlbacfedfkilaaGreat
