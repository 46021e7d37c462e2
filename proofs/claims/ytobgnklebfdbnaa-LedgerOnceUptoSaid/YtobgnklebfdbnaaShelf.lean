/-
  Contracts of Go's library that the kit's shelf has proved, laid at this program (printed by wip/tools/shelf2.py).
-/
import Derived.Shelf.SlIter.Nil
import Derived.Ground.GgzProg
import Derived.Shelf.Strings.Builder1
import Derived.Shelf.Strings.BuilderF
import Derived.Shelf.Strings.BuilderK
import Derived.Shelf.Slices.Equal
import Derived.Shelf.Slices.CompactS
import Derived.Ground.SlgmProg
import Derived.Shelf.SortM.Plain
import Derived.Shelf.SortM.SortNone
import Derived.Test.YtobgnklebfdbnaaProg
namespace Go.Proofs.Ytobgnklebfdbnaa
open Go.Shelf
def sh_lays169_ren : Go.Shelf.Ren := ⟨fun | 169 => 109 | n => n, fun | 70 => 170 | 9 => 9 | 0 => 0 | 72 => 172 | 37 => 146 | 127 => 191 | 3 => 3 | 5 => 5 | n => n, fun | n => n⟩
theorem sh_lays169 : Go.Proofs.Lays.n169 Try.prog sh_lays169_ren := {
  mixed := by kernel_rfl
  f169 := Try.func109.trans (congrArg some (by kernel_rfl))
  t0 := Try.underlying0
  a0 := Try.isAgg0
  z0 := Try.sizeOf0
  v0 := Try.zeroValue0
  t3 := Try.underlying3
  a3 := Try.isAgg3
  z3 := Try.sizeOf3
  v3 := Try.zeroValue3
  t9 := Try.underlying9
  a9 := Try.isAgg9
  z9 := Try.sizeOf9
  v9 := Try.zeroValue9
  t37 := Try.underlying146
  a37 := Try.isAgg146
  z37 := Try.sizeOf146
  v37 := Try.zeroValue146
  t70 := Try.underlying170
  a70 := Try.isAgg170
  z70 := Try.sizeOf170
  v70 := Try.zeroValue170
  t72 := Try.underlying172
  a72 := Try.isAgg172
  z72 := Try.sizeOf172
  v72 := Try.zeroValue172
  t127 := Try.underlying191
  a127 := Try.isAgg191
  z127 := Try.sizeOf191
  v127 := Try.zeroValue191 }
def sh_lays193_ren : Go.Shelf.Ren := ⟨fun | 193 => 75 | n => n, fun | 31 => 29 | 9 => 9 | 4 => 4 | 3 => 3 | 0 => 0 | n => n, fun | n => n⟩
theorem sh_lays193 : Go.Proofs.Lays.n193 Try.prog sh_lays193_ren := {
  mixed := by kernel_rfl
  f193 := Try.func75.trans (congrArg some (by kernel_rfl))
  t0 := Try.underlying0
  a0 := Try.isAgg0
  z0 := Try.sizeOf0
  v0 := Try.zeroValue0
  t3 := Try.underlying3
  a3 := Try.isAgg3
  z3 := Try.sizeOf3
  v3 := Try.zeroValue3
  t4 := Try.underlying4
  a4 := Try.isAgg4
  z4 := Try.sizeOf4
  v4 := Try.zeroValue4
  t9 := Try.underlying9
  a9 := Try.isAgg9
  z9 := Try.sizeOf9
  v9 := Try.zeroValue9
  t31 := Try.underlying29
  a31 := Try.isAgg29
  z31 := Try.sizeOf29
  v31 := Try.zeroValue29 }
open Go.RowKit Go.Lib in
theorem sh_slices_Equal_string (b1 o1 n c b2 o2 m d : Nat) (xs ys : List ByteArray) (w : World) (hx : n ≤ xs.length) (hy : m ≤ ys.length) (hbig : n ≤ 9223372036854775807) (hbig2 : m ≤ 9223372036854775807) (hc1 : ∀ j, j < xs.length → w.cell? ⟨b1, o1 + j, none⟩ = some (.string (xs.getD j ByteArray.empty))) (hc2 : ∀ j, j < ys.length → w.cell? ⟨b2, o2 + j, none⟩ = some (.string (ys.getD j ByteArray.empty))) :
    Calls Try.prog 75 #[.slice (some ⟨b1, o1, none⟩) n c, .slice (some ⟨b2, o2, none⟩) m d] w fun e w' => e = .returned (.bool (decide (xs.take n = ys.take m))) ∧ ∃ q, w' = w.drewN q := Any.slices_Equal_string sh_lays193 b1 o1 n c b2 o2 m d xs ys w hx hy hbig hbig2 hc1 hc2
open Go.RowKit Go.Lib in
theorem sh_slices_Equal_string_empty (a1 a2 : Option Addr) (c m d : Nat) (w : World) (hbig2 : m ≤ 9223372036854775807) :
    Calls Try.prog 75 #[.slice a1 0 c, .slice a2 m d] w fun e w' => e = .returned (.bool (decide (m = 0))) ∧ w' = w := Any.slices_Equal_string_empty sh_lays193 a1 a2 c m d w hbig2
def sh_keys77_ren : Go.Shelf.Ren := ⟨fun | 7 => 77 | 10 => 102 | n => n, fun | 23 => 136 | 26 => 9 | 3 => 33 | 28 => 141 | 0 => 0 | 27 => 140 | 33 => 162 | 4 => 4 | n => n, fun | n => n⟩
theorem sh_keys77 : Go.Proofs.SlLaysZ.n7 Try.prog sh_keys77_ren := {
  mixed := by kernel_rfl
  f7 := ⟨Try.f77.name, by decide, Try.func77.trans (congrArg some (by kernel_rfl))⟩
  f10 := ⟨Try.f102.name, by decide, Try.func102.trans (congrArg some (by kernel_rfl))⟩
  t0 := Try.underlying0
  a0 := Try.isAgg0
  z0 := Try.sizeOf0
  v0 := Try.zeroValue0
  t4 := Try.underlying4
  a4 := Try.isAgg4
  z4 := Try.sizeOf4
  v4 := Try.zeroValue4
  t23 := Try.underlying136
  a23 := Try.isAgg136
  z23 := Try.sizeOf136
  v23 := Try.zeroValue136
  t26 := Try.underlying9
  a26 := Try.isAgg9
  z26 := Try.sizeOf9
  v26 := Try.zeroValue9
  t27 := Try.underlying140
  a27 := Try.isAgg140
  z27 := Try.sizeOf140
  v27 := Try.zeroValue140
  t28 := Try.underlying141
  a28 := Try.isAgg141
  z28 := Try.sizeOf141
  v28 := Try.zeroValue141
  t33 := Try.underlying162
  a33 := Try.isAgg162
  z33 := Try.sizeOf162
  v33 := Try.zeroValue162 }
def sh_sorted76_ren : Go.Shelf.Ren := ⟨fun | 6 => 76 | 8 => 101 | 9 => 88 | 11 => 119 | 13 => 114 | 12 => 115 | 23 => 135 | 24 => 136 | 14 => 137 | 15 => 138 | 16 => 139 | 17 => 140 | 18 => 141 | 19 => 142 | 20 => 143 | 21 => 144 | 22 => 145 | 25 => 159 | 26 => 155 | 27 => 156 | 28 => 160 | 29 => 161 | 30 => 162 | 31 => 168 | n => n, fun | 26 => 9 | 28 => 141 | 24 => 29 | 0 => 0 | 3 => 3 | 37 => 118 | 48 => 201 | 50 => 189 | 4 => 4 | 40 => 194 | 39 => 193 | 45 => 198 | 5 => 5 | 9 => 9 | 51 => 219 | 55 => 223 | 57 => 232 | 58 => 233 | 33 => 162 | n => n, fun | n => n⟩
theorem sh_sorted76 : Go.Proofs.SlLaysZ.n6 Try.prog sh_sorted76_ren := {
  mixed := by kernel_rfl
  f6 := ⟨Try.f76.name, by decide, Try.func76.trans (congrArg some (by kernel_rfl))⟩
  f8 := ⟨Try.f101.name, by decide, Try.func101.trans (congrArg some (by kernel_rfl))⟩
  f11 := ⟨Try.f119.name, by decide, Try.func119.trans (congrArg some (by kernel_rfl))⟩
  t0 := Try.underlying0
  a0 := Try.isAgg0
  z0 := Try.sizeOf0
  v0 := Try.zeroValue0
  t24 := Try.underlying29
  a24 := Try.isAgg29
  z24 := Try.sizeOf29
  v24 := Try.zeroValue29
  t26 := Try.underlying9
  a26 := Try.isAgg9
  z26 := Try.sizeOf9
  v26 := Try.zeroValue9
  t28 := Try.underlying141
  a28 := Try.isAgg141
  z28 := Try.sizeOf141
  v28 := Try.zeroValue141
  i26 := by kernel_rfl }
def sh_sort88_ren : Go.Shelf.Ren := ⟨fun | 6 => 88 | 8 => 114 | 9 => 115 | 19 => 135 | 20 => 136 | 21 => 137 | 22 => 138 | 23 => 139 | 24 => 140 | 25 => 141 | 26 => 142 | 27 => 143 | 28 => 144 | 29 => 145 | 36 => 159 | 31 => 155 | 32 => 156 | 37 => 160 | 38 => 161 | 39 => 162 | 41 => 168 | n => n, fun | 27 => 29 | 29 => 9 | 3 => 3 | 32 => 118 | 26 => 29 | 0 => 0 | 44 => 201 | 46 => 189 | 4 => 4 | 36 => 194 | 35 => 193 | 41 => 198 | 5 => 5 | 9 => 9 | 53 => 219 | 57 => 223 | 63 => 232 | 64 => 233 | n => n, fun | n => n⟩
theorem sh_sort88 : Go.Proofs.SlLaysM.n6 Try.prog sh_sort88_ren := {
  mixed := by kernel_rfl
  f6 := ⟨Try.f88.name, by decide, Try.func88.trans (congrArg some (by kernel_rfl))⟩
  f8 := Try.func114.trans (congrArg some (by kernel_rfl))
  f9 := ⟨Try.f115.name, by decide, Try.func115.trans (congrArg some (by kernel_rfl))⟩
  f19 := Try.func135.trans (congrArg some (by kernel_rfl))
  f20 := Try.func136.trans (congrArg some (by kernel_rfl))
  f21 := ⟨Try.f137.name, by decide, Try.func137.trans (congrArg some (by kernel_rfl))⟩
  f22 := ⟨Try.f138.name, by decide, Try.func138.trans (congrArg some (by kernel_rfl))⟩
  f23 := ⟨Try.f139.name, by decide, Try.func139.trans (congrArg some (by kernel_rfl))⟩
  f24 := ⟨Try.f140.name, by decide, Try.func140.trans (congrArg some (by kernel_rfl))⟩
  f25 := ⟨Try.f141.name, by decide, Try.func141.trans (congrArg some (by kernel_rfl))⟩
  f26 := ⟨Try.f142.name, by decide, Try.func142.trans (congrArg some (by kernel_rfl))⟩
  f27 := ⟨Try.f143.name, by decide, Try.func143.trans (congrArg some (by kernel_rfl))⟩
  f28 := ⟨Try.f144.name, by decide, Try.func144.trans (congrArg some (by kernel_rfl))⟩
  f29 := ⟨Try.f145.name, by decide, Try.func145.trans (congrArg some (by kernel_rfl))⟩
  f31 := Try.func155.trans (congrArg some (by kernel_rfl))
  f32 := Try.func156.trans (congrArg some (by kernel_rfl))
  f36 := ⟨Try.f159.name, by decide, Try.func159.trans (congrArg some (by kernel_rfl))⟩
  f37 := ⟨Try.f160.name, by decide, Try.func160.trans (congrArg some (by kernel_rfl))⟩
  f38 := ⟨Try.f161.name, by decide, Try.func161.trans (congrArg some (by kernel_rfl))⟩
  f39 := ⟨Try.f162.name, by decide, Try.func162.trans (congrArg some (by kernel_rfl))⟩
  f41 := ⟨Try.f168.name, by decide, Try.func168.trans (congrArg some (by kernel_rfl))⟩
  t0 := Try.underlying0
  a0 := Try.isAgg0
  z0 := Try.sizeOf0
  v0 := Try.zeroValue0
  t3 := Try.underlying3
  a3 := Try.isAgg3
  z3 := Try.sizeOf3
  v3 := Try.zeroValue3
  t4 := Try.underlying4
  a4 := Try.isAgg4
  z4 := Try.sizeOf4
  v4 := Try.zeroValue4
  t5 := Try.underlying5
  a5 := Try.isAgg5
  z5 := Try.sizeOf5
  v5 := Try.zeroValue5
  t9 := Try.underlying9
  a9 := Try.isAgg9
  z9 := Try.sizeOf9
  v9 := Try.zeroValue9
  t26 := Try.underlying29
  a26 := Try.isAgg29
  z26 := Try.sizeOf29
  v26 := Try.zeroValue29
  t27 := Try.underlying29
  a27 := Try.isAgg29
  z27 := Try.sizeOf29
  v27 := Try.zeroValue29
  t29 := Try.underlying9
  a29 := Try.isAgg9
  z29 := Try.sizeOf9
  v29 := Try.zeroValue9
  t32 := Try.underlying118
  a32 := Try.isAgg118
  z32 := Try.sizeOf118
  v32 := Try.zeroValue118
  t35 := Try.underlying193
  a35 := Try.isAgg193
  z35 := Try.sizeOf193
  v35 := Try.zeroValue193
  t36 := Try.underlying194
  a36 := Try.isAgg194
  z36 := Try.sizeOf194
  v36 := Try.zeroValue194
  t41 := Try.underlying198
  a41 := Try.isAgg198
  z41 := Try.sizeOf198
  v41 := Try.zeroValue198
  t44 := Try.underlying201
  a44 := Try.isAgg201
  z44 := Try.sizeOf201
  v44 := Try.zeroValue201
  t46 := Try.underlying189
  a46 := Try.isAgg189
  z46 := Try.sizeOf189
  v46 := Try.zeroValue189
  t53 := Try.underlying219
  a53 := Try.isAgg219
  z53 := Try.sizeOf219
  v53 := Try.zeroValue219
  t57 := Try.underlying223
  a57 := Try.isAgg223
  z57 := Try.sizeOf223
  v57 := Try.zeroValue223
  t63 := Try.underlying232
  a63 := Try.isAgg232
  z63 := Try.sizeOf232
  v63 := Try.zeroValue232
  t64 := Try.underlying233
  a64 := Try.isAgg233
  z64 := Try.sizeOf233
  v64 := Try.zeroValue233 }
set_option maxHeartbeats 1000000 in
open Go.RowKit Go.Maps Go.Sort in
theorem sh_sorts76 (m : Nat) : AnyZ.SortsIn Try.prog sh_sorted76_ren Fence.wide m :=
  ⟨fun blk off cap ss W hH hblk hsz => callsIn_wide.2 (AnyM.slices_Sort_string sh_sort88 blk off cap ss W hH hblk hsz),
   fun p cap W => callsIn_wide.2 (AnyM.slices_Sort_string_none sh_sort88 p cap W)⟩
set_option maxHeartbeats 1000000 in
open Go.RowKit Go.Maps Go.Sort in
theorem sh_keys_Op (mb : Option Nat) (W : World) : CallsIn Fence.wide 5 Try.prog 77 #[.map mb] W fun e w' => e = .returned (.func (.func 102) #[] #[.pointer (some ⟨W.heap.size, 0, none⟩)]) ∧ w' = W.alloc (.cells #[.map mb] 136) :=
  AnyZ.keys_in sh_keys77 Fence.wide 5 trivial rfl mb W
set_option maxHeartbeats 1000000 in
open Go.RowKit Go.Maps Go.Sort in
theorem sh_sorted_Op {H : Type} (b nn : Nat) (D0 : DataW H) (R : Value → Option (DataW H × List MemPlace)) (w : World) (hown : w.ownsMap Try.prog 9 R b nn D0) (hmax : Maps.size D0 ≤ maxLen) (hbytes : Maps.size D0 * 16 ≤ 140737488355328) :
    CallsIn Fence.wide 5 Try.prog 76 #[.func (.func 102) #[] #[.pointer (some ⟨w.heap.size, 0, none⟩)]] (w.alloc (.cells #[.map (some b)] 136)) fun e w' => ∃ (v : Value) (ss : List (List UInt8)), e = .returned v ∧ ss.Perm (strKeys D0) ∧
      w'.ownsRow (w.alloc (.cells #[.map (some b)] 136)).heap.size 9 1 v ss.length ((ss.mergeSort (fun x y => decide (x ≤ y))).map encStr) ∧ (v = .slice none 0 0 ↔ ss = []) ∧ Below (w.alloc (.cells #[.map (some b)] 136)).heap.size (w.alloc (.cells #[.map (some b)] 136)) w' := by
  have hbl := hown.lt
  have hseq : SeqGives Fence.wide 2 Try.prog 102 #[.pointer (some ⟨w.heap.size, 0, none⟩)] encStr (fun ss => ss.Perm (strKeys D0)) (Maps.size D0) (w.alloc (.cells #[.map (some b)] 136)) :=
    AnyZ.keys_gives (ρ := sh_keys77_ren) { sh_keys77 with } Fence.wide _ trivial rfl (by omega) w.heap.size b nn D0 _ (by simp) (by simp) (by
      obtain ⟨es, clock, hb, Ft, hs, hD⟩ := hown
      exact ⟨es, clock, (Below.heap_alloc _ _ b hbl).trans hb, Ft, hs, hD⟩)
  exact AnyZ.sorted_in sh_sorted76 Fence.wide 5 trivial trivial trivial trivial rfl (by omega) (sh_sorts76 _) (enters_of Try.func88 (by kernel_rfl) rfl) 102 #[.pointer (some ⟨w.heap.size, 0, none⟩)] trivial (enters_of Try.func102 (by kernel_rfl) rfl) _ _ hmax hbytes _ hseq
set_option maxHeartbeats 1000000 in
open Go.RowKit Go.Maps Go.Sort in
theorem sh_sortedNil_Op (w : World) :
    CallsIn Fence.wide 5 Try.prog 76 #[.func (.func 102) #[] #[.pointer (some ⟨w.heap.size, 0, none⟩)]] (w.alloc (.cells #[.map none] 136)) fun e w' => ∃ (v : Value) (ss : List (List UInt8)), e = .returned v ∧ ss = [] ∧
      w'.ownsRow (w.alloc (.cells #[.map none] 136)).heap.size 9 1 v ss.length ((ss.mergeSort (fun x y => decide (x ≤ y))).map encStr) ∧ (v = .slice none 0 0 ↔ ss = []) ∧ Below (w.alloc (.cells #[.map none] 136)).heap.size (w.alloc (.cells #[.map none] 136)) w' := by
  have hseq : SeqGives Fence.wide 2 Try.prog 102 #[.pointer (some ⟨w.heap.size, 0, none⟩)] encStr (fun ss : List (List UInt8) => ss = []) 0 (w.alloc (.cells #[.map none] 136)) :=
    AnyZ.keys_gives_nil (ρ := sh_keys77_ren) { sh_keys77 with } Fence.wide _ trivial rfl w.heap.size _ (by simp) (by simp)
  exact AnyZ.sorted_in sh_sorted76 Fence.wide 5 trivial trivial trivial trivial rfl (by omega) (sh_sorts76 _) (enters_of Try.func88 (by kernel_rfl) rfl) 102 #[.pointer (some ⟨w.heap.size, 0, none⟩)] trivial (enters_of Try.func102 (by kernel_rfl) rfl) _ 0 (Nat.zero_le _) (by omega) _ hseq
def sh_keys85_ren : Go.Shelf.Ren := ⟨fun | 7 => 85 | 10 => 112 | n => n, fun | 23 => 107 | 26 => 9 | 3 => 31 | 28 => 141 | 0 => 0 | 27 => 140 | 33 => 162 | 4 => 4 | n => n, fun | n => n⟩
theorem sh_keys85 : Go.Proofs.SlLaysZ.n7 Try.prog sh_keys85_ren := {
  mixed := by kernel_rfl
  f7 := ⟨Try.f85.name, by decide, Try.func85.trans (congrArg some (by kernel_rfl))⟩
  f10 := ⟨Try.f112.name, by decide, Try.func112.trans (congrArg some (by kernel_rfl))⟩
  t0 := Try.underlying0
  a0 := Try.isAgg0
  z0 := Try.sizeOf0
  v0 := Try.zeroValue0
  t4 := Try.underlying4
  a4 := Try.isAgg4
  z4 := Try.sizeOf4
  v4 := Try.zeroValue4
  t23 := Try.underlying107
  a23 := Try.isAgg107
  z23 := Try.sizeOf107
  v23 := Try.zeroValue107
  t26 := Try.underlying9
  a26 := Try.isAgg9
  z26 := Try.sizeOf9
  v26 := Try.zeroValue9
  t27 := Try.underlying140
  a27 := Try.isAgg140
  z27 := Try.sizeOf140
  v27 := Try.zeroValue140
  t28 := Try.underlying141
  a28 := Try.isAgg141
  z28 := Try.sizeOf141
  v28 := Try.zeroValue141
  t33 := Try.underlying162
  a33 := Try.isAgg162
  z33 := Try.sizeOf162
  v33 := Try.zeroValue162 }
set_option maxHeartbeats 1000000 in
open Go.RowKit Go.Maps Go.Sort in
theorem sh_keys_Sheet (mb : Option Nat) (W : World) : CallsIn Fence.wide 5 Try.prog 85 #[.map mb] W fun e w' => e = .returned (.func (.func 112) #[] #[.pointer (some ⟨W.heap.size, 0, none⟩)]) ∧ w' = W.alloc (.cells #[.map mb] 107) :=
  AnyZ.keys_in sh_keys85 Fence.wide 5 trivial rfl mb W
set_option maxHeartbeats 1000000 in
open Go.RowKit Go.Maps Go.Sort in
theorem sh_sorted_Sheet {H : Type} (b nn : Nat) (D0 : DataW H) (R : Value → Option (DataW H × List MemPlace)) (w : World) (hown : w.ownsMap Try.prog 9 R b nn D0) (hmax : Maps.size D0 ≤ maxLen) (hbytes : Maps.size D0 * 16 ≤ 140737488355328) :
    CallsIn Fence.wide 5 Try.prog 76 #[.func (.func 112) #[] #[.pointer (some ⟨w.heap.size, 0, none⟩)]] (w.alloc (.cells #[.map (some b)] 107)) fun e w' => ∃ (v : Value) (ss : List (List UInt8)), e = .returned v ∧ ss.Perm (strKeys D0) ∧
      w'.ownsRow (w.alloc (.cells #[.map (some b)] 107)).heap.size 9 1 v ss.length ((ss.mergeSort (fun x y => decide (x ≤ y))).map encStr) ∧ (v = .slice none 0 0 ↔ ss = []) ∧ Below (w.alloc (.cells #[.map (some b)] 107)).heap.size (w.alloc (.cells #[.map (some b)] 107)) w' := by
  have hbl := hown.lt
  have hseq : SeqGives Fence.wide 2 Try.prog 112 #[.pointer (some ⟨w.heap.size, 0, none⟩)] encStr (fun ss => ss.Perm (strKeys D0)) (Maps.size D0) (w.alloc (.cells #[.map (some b)] 107)) :=
    AnyZ.keys_gives (ρ := sh_keys85_ren) { sh_keys85 with } Fence.wide _ trivial rfl (by omega) w.heap.size b nn D0 _ (by simp) (by simp) (by
      obtain ⟨es, clock, hb, Ft, hs, hD⟩ := hown
      exact ⟨es, clock, (Below.heap_alloc _ _ b hbl).trans hb, Ft, hs, hD⟩)
  exact AnyZ.sorted_in sh_sorted76 Fence.wide 5 trivial trivial trivial trivial rfl (by omega) (sh_sorts76 _) (enters_of Try.func88 (by kernel_rfl) rfl) 112 #[.pointer (some ⟨w.heap.size, 0, none⟩)] trivial (enters_of Try.func112 (by kernel_rfl) rfl) _ _ hmax hbytes _ hseq
set_option maxHeartbeats 1000000 in
open Go.RowKit Go.Maps Go.Sort in
theorem sh_sortedNil_Sheet (w : World) :
    CallsIn Fence.wide 5 Try.prog 76 #[.func (.func 112) #[] #[.pointer (some ⟨w.heap.size, 0, none⟩)]] (w.alloc (.cells #[.map none] 107)) fun e w' => ∃ (v : Value) (ss : List (List UInt8)), e = .returned v ∧ ss = [] ∧
      w'.ownsRow (w.alloc (.cells #[.map none] 107)).heap.size 9 1 v ss.length ((ss.mergeSort (fun x y => decide (x ≤ y))).map encStr) ∧ (v = .slice none 0 0 ↔ ss = []) ∧ Below (w.alloc (.cells #[.map none] 107)).heap.size (w.alloc (.cells #[.map none] 107)) w' := by
  have hseq : SeqGives Fence.wide 2 Try.prog 112 #[.pointer (some ⟨w.heap.size, 0, none⟩)] encStr (fun ss : List (List UInt8) => ss = []) 0 (w.alloc (.cells #[.map none] 107)) :=
    AnyZ.keys_gives_nil (ρ := sh_keys85_ren) { sh_keys85 with } Fence.wide _ trivial rfl w.heap.size _ (by simp) (by simp)
  exact AnyZ.sorted_in sh_sorted76 Fence.wide 5 trivial trivial trivial trivial rfl (by omega) (sh_sorts76 _) (enters_of Try.func88 (by kernel_rfl) rfl) 112 #[.pointer (some ⟨w.heap.size, 0, none⟩)] trivial (enters_of Try.func112 (by kernel_rfl) rfl) _ 0 (Nat.zero_le _) (by omega) _ hseq
def sh_w166_ren : Go.Shelf.Ren := ⟨fun | 166 => 111 | 240 => 126 | 276 => 153 | n => n, fun | 70 => 170 | 9 => 9 | 0 => 0 | 72 => 172 | 37 => 146 | 127 => 191 | 3 => 3 | 5 => 5 | 4 => 4 | 20 => 20 | 75 => 176 | 80 => 93 | 164 => 217 | n => n, fun | n => n⟩
theorem sh_w166 : Go.Proofs.Lays.n166 Try.prog sh_w166_ren := {
  mixed := by kernel_rfl
  f166 := Try.func111.trans (congrArg some (by kernel_rfl))
  f240 := Try.func126.trans (congrArg some (by kernel_rfl))
  f276 := Try.func153.trans (congrArg some (by kernel_rfl))
  t0 := Try.underlying0
  a0 := Try.isAgg0
  z0 := Try.sizeOf0
  v0 := Try.zeroValue0
  t3 := Try.underlying3
  a3 := Try.isAgg3
  z3 := Try.sizeOf3
  v3 := Try.zeroValue3
  t4 := Try.underlying4
  a4 := Try.isAgg4
  z4 := Try.sizeOf4
  v4 := Try.zeroValue4
  t9 := Try.underlying9
  a9 := Try.isAgg9
  z9 := Try.sizeOf9
  v9 := Try.zeroValue9
  t20 := Try.underlying20
  a20 := Try.isAgg20
  z20 := Try.sizeOf20
  v20 := Try.zeroValue20
  t37 := Try.underlying146
  a37 := Try.isAgg146
  z37 := Try.sizeOf146
  v37 := Try.zeroValue146
  t70 := Try.underlying170
  a70 := Try.isAgg170
  z70 := Try.sizeOf170
  v70 := Try.zeroValue170
  t72 := Try.underlying172
  a72 := Try.isAgg172
  z72 := Try.sizeOf172
  v72 := Try.zeroValue172
  t75 := Try.underlying176
  a75 := Try.isAgg176
  z75 := Try.sizeOf176
  v75 := Try.zeroValue176
  t164 := Try.underlying217
  a164 := Try.isAgg217
  z164 := Try.sizeOf217
  v164 := Try.zeroValue217 }
theorem sh_w166_extra : Builder.Extra Try.prog sh_w166_ren := {
  sizeBuilder := by kernel_rfl
  liesBuilder := by kernel_rfl
  t5 := Try.underlying5
  a5 := Try.isAgg5
  z5 := Try.sizeOf5
  v5 := Try.zeroValue5
  infoByte := by kernel_rfl
  cellsByte := by kernel_rfl
  sizeByte := by kernel_rfl
  neB5 := by decide }
def sh_w167_ren : Go.Shelf.Ren := ⟨fun | 167 => 125 | 240 => 126 | 276 => 153 | n => n, fun | 70 => 170 | 9 => 9 | 0 => 0 | 72 => 172 | 37 => 146 | 127 => 191 | 3 => 3 | 5 => 5 | 4 => 4 | 20 => 20 | 75 => 176 | 80 => 93 | 164 => 217 | n => n, fun | n => n⟩
theorem sh_w167 : Go.Proofs.Lays.n167 Try.prog sh_w167_ren := {
  mixed := by kernel_rfl
  f167 := Try.func125.trans (congrArg some (by kernel_rfl))
  f240 := Try.func126.trans (congrArg some (by kernel_rfl))
  f276 := Try.func153.trans (congrArg some (by kernel_rfl))
  t0 := Try.underlying0
  a0 := Try.isAgg0
  z0 := Try.sizeOf0
  v0 := Try.zeroValue0
  t4 := Try.underlying4
  a4 := Try.isAgg4
  z4 := Try.sizeOf4
  v4 := Try.zeroValue4
  t5 := Try.underlying5
  a5 := Try.isAgg5
  z5 := Try.sizeOf5
  v5 := Try.zeroValue5
  t9 := Try.underlying9
  a9 := Try.isAgg9
  z9 := Try.sizeOf9
  v9 := Try.zeroValue9
  t20 := Try.underlying20
  a20 := Try.isAgg20
  z20 := Try.sizeOf20
  v20 := Try.zeroValue20
  t37 := Try.underlying146
  a37 := Try.isAgg146
  z37 := Try.sizeOf146
  v37 := Try.zeroValue146
  t70 := Try.underlying170
  a70 := Try.isAgg170
  z70 := Try.sizeOf170
  v70 := Try.zeroValue170
  t72 := Try.underlying172
  a72 := Try.isAgg172
  z72 := Try.sizeOf172
  v72 := Try.zeroValue172
  t75 := Try.underlying176
  a75 := Try.isAgg176
  z75 := Try.sizeOf176
  v75 := Try.zeroValue176
  t164 := Try.underlying217
  a164 := Try.isAgg217
  z164 := Try.sizeOf217
  v164 := Try.zeroValue217 }
theorem sh_w167_extra : Builder.Extra Try.prog sh_w167_ren := {
  sizeBuilder := by kernel_rfl
  liesBuilder := by kernel_rfl
  t5 := Try.underlying5
  a5 := Try.isAgg5
  z5 := Try.sizeOf5
  v5 := Try.zeroValue5
  infoByte := by kernel_rfl
  cellsByte := by kernel_rfl
  sizeByte := by kernel_rfl
  neB5 := by decide }
theorem sh_w169_extra : Builder.Extra Try.prog sh_lays169_ren := {
  sizeBuilder := by kernel_rfl
  liesBuilder := by kernel_rfl
  t5 := Try.underlying5
  a5 := Try.isAgg5
  z5 := Try.sizeOf5
  v5 := Try.zeroValue5
  infoByte := by kernel_rfl
  cellsByte := by kernel_rfl
  sizeByte := by kernel_rfl
  neB5 := by decide }
open Go.RowKit in
theorem sh_Builder_WriteByte (B b : Nat) (bs : List Value) (c : Int) (w : World) (h : Go.Lib.IsBuilder 172 5 B b bs w) (hlen : bs.length + 1 ≤ 140737488355328) (hBw : B ≤ w.heap.size) :
    Calls Try.prog 125 #[.pointer (some ⟨b, 0, none⟩), .int .u8 c] w fun e w' => e = .returned .nilIface ∧ (Go.Lib.BuilderAt 172 5 B b (.pointer (some ⟨b, 0, none⟩)) (bs ++ [.int .u8 c]) w' ∧ Below B w w') := Any.Builder_WriteByte sh_w167 sh_w167_extra B b bs c w h hlen hBw
open Go.RowKit in
theorem sh_Builder_WriteString (B b : Nat) (bs : List Value) (s : ByteArray) (w : World) (h : Go.Lib.IsBuilder 172 5 B b bs w) (hlen : bs.length + s.size ≤ 140737488355328) (hBw : B ≤ w.heap.size) :
    Calls Try.prog 111 #[.pointer (some ⟨b, 0, none⟩), .string s] w fun e w' => e = .returned (.tuple #[.int .i64 s.size, .nilIface]) ∧ (Go.Lib.BuilderAt 172 5 B b (.pointer (some ⟨b, 0, none⟩)) (bs ++ Go.Lib.strCells s) w' ∧ Below B w w') := Any.Builder_WriteString sh_w166 sh_w166_extra B b bs s w h hlen hBw
open Go.RowKit in
theorem sh_Builder_String_any (B b : Nat) (l : List UInt8) (w : World) (h : Go.Lib.IsBuilder 172 5 B b (Go.Lib.byteCells l) w) (hBw : B ≤ w.heap.size) :
    Calls Try.prog 109 #[.pointer (some ⟨b, 0, none⟩)] w fun e w' => e = .returned (.string ⟨l.toArray⟩) ∧ Below B w w' := Any.Builder_String_any sh_lays169 sh_w169_extra B b l w h hBw
end Go.Proofs.Ytobgnklebfdbnaa
