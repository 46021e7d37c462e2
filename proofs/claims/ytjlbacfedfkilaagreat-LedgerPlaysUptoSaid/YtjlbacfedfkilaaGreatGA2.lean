/-
  Put together: Bytes, By.
-/
import Derived.Test.YtjlbacfedfkilaaGreatGA
import Derived.Lib.AppendStr
import Derived.Laws.IdiomStrings
import Derived.Laws.BytesArg
import Derived.Test.YtjlbacfedfkilaaGreatReg
namespace Go.Proofs.YtjlbacfedfkilaaGreat
section
open Go.RowKit Go.ChangeShapes Go.WideShapes Go.ChangeAt
def byteOf (b : UInt8) : Value := .int .u8 b.toNat
def Rp.byte : Rp UInt8 where
 size := 1
 R _ _ cs b := cs = [byteOf b]
 μ _ := 1
 pos := Nat.one_pos
 len h := by rw [h];rfl
 keep _ _ h := h
 bnd h := h
theorem Rp.byte_by : Rp.By Rp.byte byteOf (fun _ => True) := ⟨rfl,fun _ _ _ _ => ⟨fun h => ⟨h,trivial⟩,fun h => h.1⟩,fun _ => rfl⟩
def Bytely (P : Program) (t u e : TypeId) : Prop := P.underlying t = some (.slice e) ∧ P.underlying u = some .string ∧ P.underlying e = some (.int .u8) ∧ ∃ i,P.info? e = some i ∧ i.zero = some (.int .u8 0) ∧ i.size = 1 ∧ i.bytes = 1
theorem Bytely.of {P : Program} {t u e : TypeId} (h1 : P.underlying t = some (.slice e)) (h2 : P.underlying u = some .string) (h3 : P.underlying e = some (.int .u8)) (h4 : (P.info? e).map (fun i => (i.zero,i.size,i.bytes)) = some (some (.int .u8 0),1,1)) : Bytely P t u e := by
 obtain ⟨i,a,b,c,d⟩ := info_parts h4
 exact ⟨h1,h2,h3,i,a,b,c,d⟩
theorem wpList_append_text {P : Program} {ops : Array Oper} {rest : List Oper} {o : Oper} {a : Act} {Q : Exit → Act → World → Prop} (hgd : o.guard = none) (w : World) (sl x : Operand) (t u : TypeId)
 (ho : o.op = .call { callee := .builtin .append,args := #[sl,x],argTypes := #[t,u] })
 (base : Nat) (e : TypeId) (hb : Bytely P t u e) (S : Nat → Prop) (v : Value) (l : List UInt8) (hs : a.eval sl = v) (hown : Own Rp.byte w S base e v l) (s : ByteArray) (hx : a.eval x = .string s)
 (hlen : l.length + s.size ≤ 140737488355328) (hbase : base ≤ w.heap.size)
 (h : ∀ v' w',Own Rp.byte w' S base e v' (l ++ s.data.toList) → w.grownBy w' v.ownBlock → wpList P ops Q rest (a.put o.dst v') w') : wpList P ops Q (o :: rest) a w := by
 obtain ⟨ht,hu,he,i,hi,hz,hsize,hby⟩ := hb
 obtain ⟨h1,_⟩ := Own.toRaw Rp.byte_by hown
 obtain ⟨h2,h3⟩ := Own.raw_vals h1
 rw [List.length_map] at h2
 refine Lib.wpList_append_own_string w hgd sl x t u ho base e i ht hu hi hz hsize hby v l.length _ hs h2 s hx (by simp [maxLen];omega) hlen hbase fun v' w' h4 h5 _ => h v' w' ?_ h5
 refine Own.ofRaw (S := S) Rp.byte_by (Own.of_raw ?_ ?_) (fun _ _ => trivial) S
 · have e1 : (l ++ s.data.toList).map byteOf = l.map byteOf ++ Lib.strCells s := by rw [List.map_append];rfl
   rw [e1,List.length_append,List.length_map,Lib.strCells_length]
   exact h4
 · intro u hu
   obtain ⟨b,_,rfl⟩ := List.mem_map.1 hu
   rfl
theorem run_text {P : Program} (w : World) (src u e : TypeId) (hb : Bytely P src u e) {S : Nat → Prop} {base : Nat} {A : Option Addr} {c : Nat} {l : List UInt8} (h : Own Rp.byte w S base e (.slice A l.length c) l) :
 (convert src u (.slice A l.length c)).run P w = .ok (.string (bs l)) w := by
 obtain ⟨ht,hu,he,_⟩ := hb
 cases A with
 | none =>
   have hl : l = [] := by
    cases l with
    | nil => rfl
    | cons x r =>
      obtain ⟨g,hg,_⟩ := Own.cellBy Rp.byte_by h (i := 0) (a := x) rfl
      cases hg
   subst hl
   exact run_convert_bytes_nil w src e ht he 0 c u hu
 | some ad =>
   refine run_convert_bytes_back w src u e ad c l ht he hu fun j hj => ?_
   obtain ⟨g,hg,_,_,hc,_⟩ := Own.cellBy Rp.byte_by h (i := j) (a := l[j]) (List.getElem?_eq_getElem hj)
   injection hg with hg
   subst hg
   have e0 : (⟨g,0,none⟩ : Addr).add j = ⟨g,j,none⟩ := by simp only [Addr.add];split <;> simp_all
   rw [e0];exact hc
end
section
open Go.RowKit Go.ChangeShapes Go.WideShapes Go.ChangeAt
theorem bytely : Bytely Tryz.prog 163 9 5 := Bytely.of Tryz.underlying163 Tryz.underlying9 Tryz.underlying5 (by kernel_rfl)
theorem byte_nat (n : Nat) : byteOf (UInt8.ofNat n) = .int .u8 ((n % 256 : Nat) : Int) := by
 unfold byteOf
 rw [UInt8.toNat_ofNat']
end
end Go.Proofs.YtjlbacfedfkilaaGreat
