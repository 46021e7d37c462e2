/-
  Contracts of Go's library that the kit's shelf has proved, laid at this program (printed by wip/tools/shelf2.py).
-/
import Derived.Shelf.SlIter.Nil
import Derived.Ground.GgzProg
import Derived.Shelf.Strings.Builder1
import Derived.Shelf.Strings.Builder2
import Derived.Shelf.Strings.OnBuilder
import Derived.Shelf.Small.Bits
import Derived.Shelf.Strings.BuilderF
import Derived.Shelf.Strings.BuilderK
import Derived.Shelf.Strconv.Itoa0
import Derived.Shelf.GgClosure.StringsIndexFunc
import Derived.Ground.GgwProg
import Derived.Shelf.GgClosure.StringsIndexFuncTop
import Derived.Shelf.GgClosure.StringsRunes
import Derived.Shelf.Slices.Equal
import Derived.Shelf.Slices.CompactS
import Derived.Ground.SlgmProg
import Derived.Shelf.SortM.Plain
import Derived.Shelf.SortM.SortNone
import Derived.Test.YtjlbacfedfkilaaGreatProg
namespace Go.Proofs.YtjlbacfedfkilaaGreat
open Go.Shelf
def sh_lays169_ren : Go.Shelf.Ren := ⟨fun | 169 => 170 | n => n,fun | 70 => 229 | 9 => 9 | 0 => 0 | 72 => 231 | 37 => 163 | 127 => 272 | 3 => 3 | 5 => 5 | n => n,fun | n => n⟩
theorem sh_lays169 : Go.Proofs.Lays.n169 Tryz.prog sh_lays169_ren := {
 mixed := by kernel_rfl
 f169 := Tryz.func170.trans (congrArg some (by kernel_rfl))
 t0 := Tryz.underlying0
 a0 := Tryz.isAgg0
 z0 := Tryz.sizeOf0
 v0 := Tryz.zeroValue0
 t3 := Tryz.underlying3
 a3 := Tryz.isAgg3
 z3 := Tryz.sizeOf3
 v3 := Tryz.zeroValue3
 t9 := Tryz.underlying9
 a9 := Tryz.isAgg9
 z9 := Tryz.sizeOf9
 v9 := Tryz.zeroValue9
 t37 := Tryz.underlying163
 a37 := Tryz.isAgg163
 z37 := Tryz.sizeOf163
 v37 := Tryz.zeroValue163
 t70 := Tryz.underlying229
 a70 := Tryz.isAgg229
 z70 := Tryz.sizeOf229
 v70 := Tryz.zeroValue229
 t72 := Tryz.underlying231
 a72 := Tryz.isAgg231
 z72 := Tryz.sizeOf231
 v72 := Tryz.zeroValue231
 t127 := Tryz.underlying272
 a127 := Tryz.isAgg272
 z127 := Tryz.sizeOf272
 v127 := Tryz.zeroValue272 }
theorem sh_Builder_Extra_169 : Builder.Extra Tryz.prog sh_lays169_ren := {
 sizeBuilder := by kernel_rfl
 liesBuilder := by kernel_rfl
 t5 := Tryz.underlying5
 a5 := Tryz.isAgg5
 z5 := Tryz.sizeOf5
 v5 := Tryz.zeroValue5
 infoByte := by kernel_rfl
 cellsByte := by kernel_rfl
 sizeByte := by kernel_rfl
 neB5 := by decide }
open Go.RowKit in
theorem sh_Builder_String_any (B b : Nat) (l : List UInt8) (w : World) (h : Lib.IsBuilder 231 5 B b (Lib.byteCells l) w) (hBw : B ≤ w.heap.size) :
 Calls Tryz.prog 170 #[.pointer (some ⟨b,0,none⟩)] w fun e w' => e = .returned (.string ⟨l.toArray⟩) ∧ Below B w w' := Any.Builder_String_any sh_lays169 sh_Builder_Extra_169 B b l w h hBw
open Go.RowKit in
open Go.RowKit in
open Go.RowKit Go.Lib in
open Go.RowKit Go.Lib in
open Go.RowKit Go.Lib in
def sh_lays194_ren : Go.Shelf.Ren := ⟨fun | 194 => 107 | n => n,fun | 31 => 32 | 9 => 9 | 3 => 3 | 4 => 4 | 0 => 0 | n => n,fun | n => n⟩
theorem sh_lays194 : Go.Proofs.Lays.n194 Tryz.prog sh_lays194_ren := {
 mixed := by kernel_rfl
 f194 := Tryz.func107.trans (congrArg some (by kernel_rfl))
 t0 := Tryz.underlying0
 a0 := Tryz.isAgg0
 z0 := Tryz.sizeOf0
 v0 := Tryz.zeroValue0
 t3 := Tryz.underlying3
 a3 := Tryz.isAgg3
 z3 := Tryz.sizeOf3
 v3 := Tryz.zeroValue3
 t4 := Tryz.underlying4
 a4 := Tryz.isAgg4
 z4 := Tryz.sizeOf4
 v4 := Tryz.zeroValue4
 t9 := Tryz.underlying9
 a9 := Tryz.isAgg9
 z9 := Tryz.sizeOf9
 v9 := Tryz.zeroValue9
 t31 := Tryz.underlying32
 a31 := Tryz.isAgg32
 z31 := Tryz.sizeOf32
 v31 := Tryz.zeroValue32 }
open Go.RowKit Go.Lib Go.Sort in
theorem sh_slices_Compact_string (blk off cap : Nat) (zs : List (List UInt8)) (w : World) (hH : Holds encStr w blk off zs.toArray) (hsz : zs.length ≤ 9223372036854775807) (hcap : zs.length ≤ cap) :
 Calls Tryz.prog 107 #[.slice (some ⟨blk,off,none⟩) zs.length cap] w fun e w' => e = .returned (.slice (some ⟨blk,off,none⟩) (Lib.compact zs).length cap) ∧ ∃ q,w' = putRow encStr (Sort.ahead w q) blk off (Lib.compact zs ++ List.replicate (zs.length - (Lib.compact zs).length) []).toArray := Any.slices_Compact_string sh_lays194 blk off cap zs w hH hsz hcap
open Go.RowKit Go.Lib Go.Sort in
theorem sh_slices_Compact_string_empty (a : Option Addr) (cap : Nat) (w : World) :
 Calls Tryz.prog 107 #[.slice a 0 cap] w fun e w' => e = .returned (.slice a 0 cap) ∧ w' = w := Any.slices_Compact_string_empty sh_lays194 a cap w
def sh_laysSlM6_f106_ren : Go.Shelf.Ren := ⟨fun | 6 => 106 | 8 => 167 | 9 => 166 | 19 => 214 | 20 => 215 | 21 => 205 | 22 => 206 | 23 => 207 | 24 => 208 | 25 => 209 | 26 => 210 | 27 => 211 | 28 => 212 | 29 => 213 | 36 => 234 | 31 => 235 | 32 => 236 | 37 => 237 | 38 => 238 | 39 => 239 | 41 => 248 | n => n,fun | 27 => 32 | 29 => 9 | 3 => 3 | 32 => 213 | 26 => 32 | 0 => 0 | 44 => 208 | 46 => 212 | 4 => 4 | 36 => 259 | 35 => 258 | 41 => 205 | 5 => 5 | 9 => 9 | 53 => 278 | 57 => 282 | 63 => 293 | 64 => 294 | n => n,fun | n => n⟩
theorem sh_laysSlM6_f106 : Go.Proofs.SlLaysM.n6 Tryz.prog sh_laysSlM6_f106_ren := {
 mixed := by kernel_rfl
 f6 := ⟨Tryz.f106.name,by decide,Tryz.func106.trans (congrArg some (by kernel_rfl))⟩
 f8 := Tryz.func167.trans (congrArg some (by kernel_rfl))
 f9 := ⟨Tryz.f166.name,by decide,Tryz.func166.trans (congrArg some (by kernel_rfl))⟩
 f19 := Tryz.func214.trans (congrArg some (by kernel_rfl))
 f20 := Tryz.func215.trans (congrArg some (by kernel_rfl))
 f21 := ⟨Tryz.f205.name,by decide,Tryz.func205.trans (congrArg some (by kernel_rfl))⟩
 f22 := ⟨Tryz.f206.name,by decide,Tryz.func206.trans (congrArg some (by kernel_rfl))⟩
 f23 := ⟨Tryz.f207.name,by decide,Tryz.func207.trans (congrArg some (by kernel_rfl))⟩
 f24 := ⟨Tryz.f208.name,by decide,Tryz.func208.trans (congrArg some (by kernel_rfl))⟩
 f25 := ⟨Tryz.f209.name,by decide,Tryz.func209.trans (congrArg some (by kernel_rfl))⟩
 f26 := ⟨Tryz.f210.name,by decide,Tryz.func210.trans (congrArg some (by kernel_rfl))⟩
 f27 := ⟨Tryz.f211.name,by decide,Tryz.func211.trans (congrArg some (by kernel_rfl))⟩
 f28 := ⟨Tryz.f212.name,by decide,Tryz.func212.trans (congrArg some (by kernel_rfl))⟩
 f29 := ⟨Tryz.f213.name,by decide,Tryz.func213.trans (congrArg some (by kernel_rfl))⟩
 f31 := Tryz.func235.trans (congrArg some (by kernel_rfl))
 f32 := Tryz.func236.trans (congrArg some (by kernel_rfl))
 f36 := ⟨Tryz.f234.name,by decide,Tryz.func234.trans (congrArg some (by kernel_rfl))⟩
 f37 := ⟨Tryz.f237.name,by decide,Tryz.func237.trans (congrArg some (by kernel_rfl))⟩
 f38 := ⟨Tryz.f238.name,by decide,Tryz.func238.trans (congrArg some (by kernel_rfl))⟩
 f39 := ⟨Tryz.f239.name,by decide,Tryz.func239.trans (congrArg some (by kernel_rfl))⟩
 f41 := ⟨Tryz.f248.name,by decide,Tryz.func248.trans (congrArg some (by kernel_rfl))⟩
 t0 := Tryz.underlying0
 a0 := Tryz.isAgg0
 z0 := Tryz.sizeOf0
 v0 := Tryz.zeroValue0
 t3 := Tryz.underlying3
 a3 := Tryz.isAgg3
 z3 := Tryz.sizeOf3
 v3 := Tryz.zeroValue3
 t4 := Tryz.underlying4
 a4 := Tryz.isAgg4
 z4 := Tryz.sizeOf4
 v4 := Tryz.zeroValue4
 t5 := Tryz.underlying5
 a5 := Tryz.isAgg5
 z5 := Tryz.sizeOf5
 v5 := Tryz.zeroValue5
 t9 := Tryz.underlying9
 a9 := Tryz.isAgg9
 z9 := Tryz.sizeOf9
 v9 := Tryz.zeroValue9
 t26 := Tryz.underlying32
 a26 := Tryz.isAgg32
 z26 := Tryz.sizeOf32
 v26 := Tryz.zeroValue32
 t27 := Tryz.underlying32
 a27 := Tryz.isAgg32
 z27 := Tryz.sizeOf32
 v27 := Tryz.zeroValue32
 t29 := Tryz.underlying9
 a29 := Tryz.isAgg9
 z29 := Tryz.sizeOf9
 v29 := Tryz.zeroValue9
 t32 := Tryz.underlying213
 a32 := Tryz.isAgg213
 z32 := Tryz.sizeOf213
 v32 := Tryz.zeroValue213
 t35 := Tryz.underlying258
 a35 := Tryz.isAgg258
 z35 := Tryz.sizeOf258
 v35 := Tryz.zeroValue258
 t36 := Tryz.underlying259
 a36 := Tryz.isAgg259
 z36 := Tryz.sizeOf259
 v36 := Tryz.zeroValue259
 t41 := Tryz.underlying205
 a41 := Tryz.isAgg205
 z41 := Tryz.sizeOf205
 v41 := Tryz.zeroValue205
 t44 := Tryz.underlying208
 a44 := Tryz.isAgg208
 z44 := Tryz.sizeOf208
 v44 := Tryz.zeroValue208
 t46 := Tryz.underlying212
 a46 := Tryz.isAgg212
 z46 := Tryz.sizeOf212
 v46 := Tryz.zeroValue212
 t53 := Tryz.underlying278
 a53 := Tryz.isAgg278
 z53 := Tryz.sizeOf278
 v53 := Tryz.zeroValue278
 t57 := Tryz.underlying282
 a57 := Tryz.isAgg282
 z57 := Tryz.sizeOf282
 v57 := Tryz.zeroValue282
 t63 := Tryz.underlying293
 a63 := Tryz.isAgg293
 z63 := Tryz.sizeOf293
 v63 := Tryz.zeroValue293
 t64 := Tryz.underlying294
 a64 := Tryz.isAgg294
 z64 := Tryz.sizeOf294
 v64 := Tryz.zeroValue294 }
open Go.Sort Go.RowKit in
theorem sh_slices_Sort_string (blk off cap : Nat) (ss : List (List UInt8)) (w : World) (hH : Holds encStr w blk off ss.toArray) (hblk : blk < w.heap.size) (hsz : ss.length < 4611686018427387904) :
 Calls Tryz.prog 106 #[.slice (some ⟨blk,off,none⟩) ss.length cap] w fun e w' =>
  e = .returned (.tuple #[]) ∧ ∃ n os,w' = grow (putRow encStr (Sort.ahead w n) blk off (ss.mergeSort fun x y => decide (x ≤ y)).toArray) os := AnyM.slices_Sort_string sh_laysSlM6_f106 blk off cap ss w hH hblk hsz
open Go.RowKit Go.Sort in
theorem sh_slices_Sort_string_none (p : Option Addr) (cap : Nat) (w : World) :
 Calls Tryz.prog 106 #[.slice p 0 cap] w fun e w' => e = .returned (.tuple #[]) ∧ w' = w := AnyM.slices_Sort_string_none sh_laysSlM6_f106 p cap w
def sh_keys88_ren : Go.Shelf.Ren := ⟨fun | 7 => 88 | 10 => 162 | n => n,fun | 23 => 82 | 26 => 9 | 3 => 34 | 28 => 142 | 0 => 0 | 27 => 141 | 33 => 204 | 4 => 4 | n => n,fun | n => n⟩
theorem sh_keys88 : Go.Proofs.SlLaysZ.n7 Tryz.prog sh_keys88_ren := {
 mixed := by kernel_rfl
 f7 := ⟨Tryz.f88.name,by decide,Tryz.func88.trans (congrArg some (by kernel_rfl))⟩
 f10 := ⟨Tryz.f162.name,by decide,Tryz.func162.trans (congrArg some (by kernel_rfl))⟩
 t0 := Tryz.underlying0
 a0 := Tryz.isAgg0
 z0 := Tryz.sizeOf0
 v0 := Tryz.zeroValue0
 t4 := Tryz.underlying4
 a4 := Tryz.isAgg4
 z4 := Tryz.sizeOf4
 v4 := Tryz.zeroValue4
 t23 := Tryz.underlying82
 a23 := Tryz.isAgg82
 z23 := Tryz.sizeOf82
 v23 := Tryz.zeroValue82
 t26 := Tryz.underlying9
 a26 := Tryz.isAgg9
 z26 := Tryz.sizeOf9
 v26 := Tryz.zeroValue9
 t27 := Tryz.underlying141
 a27 := Tryz.isAgg141
 z27 := Tryz.sizeOf141
 v27 := Tryz.zeroValue141
 t28 := Tryz.underlying142
 a28 := Tryz.isAgg142
 z28 := Tryz.sizeOf142
 v28 := Tryz.zeroValue142
 t33 := Tryz.underlying204
 a33 := Tryz.isAgg204
 z33 := Tryz.sizeOf204
 v33 := Tryz.zeroValue204 }
def sh_sorted87_ren : Go.Shelf.Ren := ⟨fun | 6 => 87 | 8 => 161 | 9 => 106 | 11 => 203 | 13 => 167 | 12 => 166 | 23 => 214 | 24 => 215 | 14 => 205 | 15 => 206 | 16 => 207 | 17 => 208 | 18 => 209 | 19 => 210 | 20 => 211 | 21 => 212 | 22 => 213 | 25 => 234 | 26 => 235 | 27 => 236 | 28 => 237 | 29 => 238 | 30 => 239 | 31 => 248 | n => n,fun | 26 => 9 | 28 => 142 | 24 => 32 | 0 => 0 | 3 => 3 | 37 => 213 | 48 => 208 | 50 => 212 | 4 => 4 | 40 => 259 | 39 => 258 | 45 => 205 | 5 => 5 | 9 => 9 | 51 => 278 | 55 => 282 | 57 => 293 | 58 => 294 | 33 => 204 | n => n,fun | n => n⟩
theorem sh_sorted87 : Go.Proofs.SlLaysZ.n6 Tryz.prog sh_sorted87_ren := {
 mixed := by kernel_rfl
 f6 := ⟨Tryz.f87.name,by decide,Tryz.func87.trans (congrArg some (by kernel_rfl))⟩
 f8 := ⟨Tryz.f161.name,by decide,Tryz.func161.trans (congrArg some (by kernel_rfl))⟩
 f11 := ⟨Tryz.f203.name,by decide,Tryz.func203.trans (congrArg some (by kernel_rfl))⟩
 t0 := Tryz.underlying0
 a0 := Tryz.isAgg0
 z0 := Tryz.sizeOf0
 v0 := Tryz.zeroValue0
 t24 := Tryz.underlying32
 a24 := Tryz.isAgg32
 z24 := Tryz.sizeOf32
 v24 := Tryz.zeroValue32
 t26 := Tryz.underlying9
 a26 := Tryz.isAgg9
 z26 := Tryz.sizeOf9
 v26 := Tryz.zeroValue9
 t28 := Tryz.underlying142
 a28 := Tryz.isAgg142
 z28 := Tryz.sizeOf142
 v28 := Tryz.zeroValue142
 i26 := by kernel_rfl }
def sh_sort106_ren : Go.Shelf.Ren := ⟨fun | 6 => 106 | 8 => 167 | 9 => 166 | 19 => 214 | 20 => 215 | 21 => 205 | 22 => 206 | 23 => 207 | 24 => 208 | 25 => 209 | 26 => 210 | 27 => 211 | 28 => 212 | 29 => 213 | 36 => 234 | 31 => 235 | 32 => 236 | 37 => 237 | 38 => 238 | 39 => 239 | 41 => 248 | n => n,fun | 27 => 32 | 29 => 9 | 3 => 3 | 32 => 213 | 26 => 32 | 0 => 0 | 44 => 208 | 46 => 212 | 4 => 4 | 36 => 259 | 35 => 258 | 41 => 205 | 5 => 5 | 9 => 9 | 53 => 278 | 57 => 282 | 63 => 293 | 64 => 294 | n => n,fun | n => n⟩
theorem sh_sort106 : Go.Proofs.SlLaysM.n6 Tryz.prog sh_sort106_ren := {
 mixed := by kernel_rfl
 f6 := ⟨Tryz.f106.name,by decide,Tryz.func106.trans (congrArg some (by kernel_rfl))⟩
 f8 := Tryz.func167.trans (congrArg some (by kernel_rfl))
 f9 := ⟨Tryz.f166.name,by decide,Tryz.func166.trans (congrArg some (by kernel_rfl))⟩
 f19 := Tryz.func214.trans (congrArg some (by kernel_rfl))
 f20 := Tryz.func215.trans (congrArg some (by kernel_rfl))
 f21 := ⟨Tryz.f205.name,by decide,Tryz.func205.trans (congrArg some (by kernel_rfl))⟩
 f22 := ⟨Tryz.f206.name,by decide,Tryz.func206.trans (congrArg some (by kernel_rfl))⟩
 f23 := ⟨Tryz.f207.name,by decide,Tryz.func207.trans (congrArg some (by kernel_rfl))⟩
 f24 := ⟨Tryz.f208.name,by decide,Tryz.func208.trans (congrArg some (by kernel_rfl))⟩
 f25 := ⟨Tryz.f209.name,by decide,Tryz.func209.trans (congrArg some (by kernel_rfl))⟩
 f26 := ⟨Tryz.f210.name,by decide,Tryz.func210.trans (congrArg some (by kernel_rfl))⟩
 f27 := ⟨Tryz.f211.name,by decide,Tryz.func211.trans (congrArg some (by kernel_rfl))⟩
 f28 := ⟨Tryz.f212.name,by decide,Tryz.func212.trans (congrArg some (by kernel_rfl))⟩
 f29 := ⟨Tryz.f213.name,by decide,Tryz.func213.trans (congrArg some (by kernel_rfl))⟩
 f31 := Tryz.func235.trans (congrArg some (by kernel_rfl))
 f32 := Tryz.func236.trans (congrArg some (by kernel_rfl))
 f36 := ⟨Tryz.f234.name,by decide,Tryz.func234.trans (congrArg some (by kernel_rfl))⟩
 f37 := ⟨Tryz.f237.name,by decide,Tryz.func237.trans (congrArg some (by kernel_rfl))⟩
 f38 := ⟨Tryz.f238.name,by decide,Tryz.func238.trans (congrArg some (by kernel_rfl))⟩
 f39 := ⟨Tryz.f239.name,by decide,Tryz.func239.trans (congrArg some (by kernel_rfl))⟩
 f41 := ⟨Tryz.f248.name,by decide,Tryz.func248.trans (congrArg some (by kernel_rfl))⟩
 t0 := Tryz.underlying0
 a0 := Tryz.isAgg0
 z0 := Tryz.sizeOf0
 v0 := Tryz.zeroValue0
 t3 := Tryz.underlying3
 a3 := Tryz.isAgg3
 z3 := Tryz.sizeOf3
 v3 := Tryz.zeroValue3
 t4 := Tryz.underlying4
 a4 := Tryz.isAgg4
 z4 := Tryz.sizeOf4
 v4 := Tryz.zeroValue4
 t5 := Tryz.underlying5
 a5 := Tryz.isAgg5
 z5 := Tryz.sizeOf5
 v5 := Tryz.zeroValue5
 t9 := Tryz.underlying9
 a9 := Tryz.isAgg9
 z9 := Tryz.sizeOf9
 v9 := Tryz.zeroValue9
 t26 := Tryz.underlying32
 a26 := Tryz.isAgg32
 z26 := Tryz.sizeOf32
 v26 := Tryz.zeroValue32
 t27 := Tryz.underlying32
 a27 := Tryz.isAgg32
 z27 := Tryz.sizeOf32
 v27 := Tryz.zeroValue32
 t29 := Tryz.underlying9
 a29 := Tryz.isAgg9
 z29 := Tryz.sizeOf9
 v29 := Tryz.zeroValue9
 t32 := Tryz.underlying213
 a32 := Tryz.isAgg213
 z32 := Tryz.sizeOf213
 v32 := Tryz.zeroValue213
 t35 := Tryz.underlying258
 a35 := Tryz.isAgg258
 z35 := Tryz.sizeOf258
 v35 := Tryz.zeroValue258
 t36 := Tryz.underlying259
 a36 := Tryz.isAgg259
 z36 := Tryz.sizeOf259
 v36 := Tryz.zeroValue259
 t41 := Tryz.underlying205
 a41 := Tryz.isAgg205
 z41 := Tryz.sizeOf205
 v41 := Tryz.zeroValue205
 t44 := Tryz.underlying208
 a44 := Tryz.isAgg208
 z44 := Tryz.sizeOf208
 v44 := Tryz.zeroValue208
 t46 := Tryz.underlying212
 a46 := Tryz.isAgg212
 z46 := Tryz.sizeOf212
 v46 := Tryz.zeroValue212
 t53 := Tryz.underlying278
 a53 := Tryz.isAgg278
 z53 := Tryz.sizeOf278
 v53 := Tryz.zeroValue278
 t57 := Tryz.underlying282
 a57 := Tryz.isAgg282
 z57 := Tryz.sizeOf282
 v57 := Tryz.zeroValue282
 t63 := Tryz.underlying293
 a63 := Tryz.isAgg293
 z63 := Tryz.sizeOf293
 v63 := Tryz.zeroValue293
 t64 := Tryz.underlying294
 a64 := Tryz.isAgg294
 z64 := Tryz.sizeOf294
 v64 := Tryz.zeroValue294 }
set_option maxHeartbeats 1000000 in
open Go.RowKit Go.Maps Go.Sort in
theorem sh_sorts87 (m : Nat) : AnyZ.SortsIn Tryz.prog sh_sorted87_ren Fence.wide m :=
 ⟨fun blk off cap ss W hH hblk hsz => callsIn_wide.2 (AnyM.slices_Sort_string sh_sort106 blk off cap ss W hH hblk hsz),
  fun p cap W => callsIn_wide.2 (AnyM.slices_Sort_string_none sh_sort106 p cap W)⟩
set_option maxHeartbeats 1000000 in
open Go.RowKit Go.Maps Go.Sort in
theorem sh_keys_Sheet (mb : Option Nat) (W : World) : CallsIn Fence.wide 5 Tryz.prog 88 #[.map mb] W fun e w' => e = .returned (.func (.func 162) #[] #[.pointer (some ⟨W.heap.size,0,none⟩)]) ∧ w' = W.alloc (.cells #[.map mb] 82) :=
 AnyZ.keys_in sh_keys88 Fence.wide 5 trivial rfl mb W
set_option maxHeartbeats 1000000 in
open Go.RowKit Go.Maps Go.Sort in
theorem sh_sorted_Sheet {H : Type} (b nn : Nat) (D0 : DataW H) (R : Value → Option (DataW H × List MemPlace)) (w : World) (hown : w.ownsMap Tryz.prog 9 R b nn D0) (hmax : Maps.size D0 ≤ maxLen) (hbytes : Maps.size D0 * 16 ≤ 140737488355328) :
 CallsIn Fence.wide 5 Tryz.prog 87 #[.func (.func 162) #[] #[.pointer (some ⟨w.heap.size,0,none⟩)]] (w.alloc (.cells #[.map (some b)] 82)) fun e w' => ∃ (v : Value) (ss : List (List UInt8)),e = .returned v ∧ ss.Perm (strKeys D0) ∧
  w'.ownsRow (w.alloc (.cells #[.map (some b)] 82)).heap.size 9 1 v ss.length ((ss.mergeSort (fun x y => decide (x ≤ y))).map encStr) ∧ (v = .slice none 0 0 ↔ ss = []) ∧ Below (w.alloc (.cells #[.map (some b)] 82)).heap.size (w.alloc (.cells #[.map (some b)] 82)) w' := by
 have hbl := hown.lt
 have hseq : SeqGives Fence.wide 2 Tryz.prog 162 #[.pointer (some ⟨w.heap.size,0,none⟩)] encStr (fun ss => ss.Perm (strKeys D0)) (Maps.size D0) (w.alloc (.cells #[.map (some b)] 82)) :=
  AnyZ.keys_gives (ρ := sh_keys88_ren) { sh_keys88 with } Fence.wide _ trivial rfl (by omega) w.heap.size b nn D0 _ (by simp) (by simp) (by
   obtain ⟨es,clock,hb,Ft,hs,hD⟩ := hown
   exact ⟨es,clock,(Below.heap_alloc _ _ b hbl).trans hb,Ft,hs,hD⟩)
 exact AnyZ.sorted_in sh_sorted87 Fence.wide 5 trivial trivial trivial trivial rfl (by omega) (sh_sorts87 _) (enters_of Tryz.func106 (by kernel_rfl) rfl) 162 #[.pointer (some ⟨w.heap.size,0,none⟩)] trivial (enters_of Tryz.func162 (by kernel_rfl) rfl) _ _ hmax hbytes _ hseq
def sh_ws_ren : Go.Shelf.Ren := ⟨fun | 156 => 231 | 165 => 245 | 166 => 172 | 169 => 170 | 240 => 225 | 241 => 250 | 276 => 243 | 277 => 252 | n => n,fun | 31 => 32 | 9 => 9 | 3 => 3 | 4 => 4 | 0 => 0 | 20 => 20 | 72 => 231 | 76 => 236 | 70 => 229 | 37 => 163 | 75 => 235 | 127 => 272 | 164 => 286 | 5 => 5 | 80 => 106 | n => n,fun | n => n⟩
theorem sh_ws : Go.Proofs.Lays.n166 Tryz.prog sh_ws_ren := {
 mixed := by kernel_rfl
 f166 := Tryz.func172.trans (congrArg some (by kernel_rfl))
 f240 := Tryz.func225.trans (congrArg some (by kernel_rfl))
 f276 := Tryz.func243.trans (congrArg some (by kernel_rfl))
 t0 := Tryz.underlying0
 a0 := Tryz.isAgg0
 z0 := Tryz.sizeOf0
 v0 := Tryz.zeroValue0
 t3 := Tryz.underlying3
 a3 := Tryz.isAgg3
 z3 := Tryz.sizeOf3
 v3 := Tryz.zeroValue3
 t4 := Tryz.underlying4
 a4 := Tryz.isAgg4
 z4 := Tryz.sizeOf4
 v4 := Tryz.zeroValue4
 t9 := Tryz.underlying9
 a9 := Tryz.isAgg9
 z9 := Tryz.sizeOf9
 v9 := Tryz.zeroValue9
 t20 := Tryz.underlying20
 a20 := Tryz.isAgg20
 z20 := Tryz.sizeOf20
 v20 := Tryz.zeroValue20
 t37 := Tryz.underlying163
 a37 := Tryz.isAgg163
 z37 := Tryz.sizeOf163
 v37 := Tryz.zeroValue163
 t70 := Tryz.underlying229
 a70 := Tryz.isAgg229
 z70 := Tryz.sizeOf229
 v70 := Tryz.zeroValue229
 t72 := Tryz.underlying231
 a72 := Tryz.isAgg231
 z72 := Tryz.sizeOf231
 v72 := Tryz.zeroValue231
 t75 := Tryz.underlying235
 a75 := Tryz.isAgg235
 z75 := Tryz.sizeOf235
 v75 := Tryz.zeroValue235
 t164 := Tryz.underlying286
 a164 := Tryz.isAgg286
 z164 := Tryz.sizeOf286
 v164 := Tryz.zeroValue286 }
theorem sh_ws_extra : Builder.Extra Tryz.prog sh_ws_ren := {
 sizeBuilder := by kernel_rfl
 liesBuilder := by kernel_rfl
 t5 := Tryz.underlying5
 a5 := Tryz.isAgg5
 z5 := Tryz.sizeOf5
 v5 := Tryz.zeroValue5
 infoByte := by kernel_rfl
 cellsByte := by kernel_rfl
 sizeByte := by kernel_rfl
 neB5 := by decide }
def sh_wb_ren : Go.Shelf.Ren := ⟨fun | 167 => 224 | 156 => 231 | 165 => 245 | 166 => 172 | 169 => 170 | 240 => 225 | 241 => 250 | 276 => 243 | 277 => 252 | n => n,fun | 31 => 32 | 9 => 9 | 3 => 3 | 4 => 4 | 0 => 0 | 20 => 20 | 72 => 231 | 76 => 236 | 70 => 229 | 37 => 163 | 75 => 235 | 127 => 272 | 164 => 286 | 5 => 5 | 80 => 106 | n => n,fun | n => n⟩
theorem sh_wb : Go.Proofs.Lays.n167 Tryz.prog sh_wb_ren := {
 mixed := by kernel_rfl
 f167 := Tryz.func224.trans (congrArg some (by kernel_rfl))
 f240 := Tryz.func225.trans (congrArg some (by kernel_rfl))
 f276 := Tryz.func243.trans (congrArg some (by kernel_rfl))
 t0 := Tryz.underlying0
 a0 := Tryz.isAgg0
 z0 := Tryz.sizeOf0
 v0 := Tryz.zeroValue0
 t4 := Tryz.underlying4
 a4 := Tryz.isAgg4
 z4 := Tryz.sizeOf4
 v4 := Tryz.zeroValue4
 t5 := Tryz.underlying5
 a5 := Tryz.isAgg5
 z5 := Tryz.sizeOf5
 v5 := Tryz.zeroValue5
 t9 := Tryz.underlying9
 a9 := Tryz.isAgg9
 z9 := Tryz.sizeOf9
 v9 := Tryz.zeroValue9
 t20 := Tryz.underlying20
 a20 := Tryz.isAgg20
 z20 := Tryz.sizeOf20
 v20 := Tryz.zeroValue20
 t37 := Tryz.underlying163
 a37 := Tryz.isAgg163
 z37 := Tryz.sizeOf163
 v37 := Tryz.zeroValue163
 t70 := Tryz.underlying229
 a70 := Tryz.isAgg229
 z70 := Tryz.sizeOf229
 v70 := Tryz.zeroValue229
 t72 := Tryz.underlying231
 a72 := Tryz.isAgg231
 z72 := Tryz.sizeOf231
 v72 := Tryz.zeroValue231
 t75 := Tryz.underlying235
 a75 := Tryz.isAgg235
 z75 := Tryz.sizeOf235
 v75 := Tryz.zeroValue235
 t164 := Tryz.underlying286
 a164 := Tryz.isAgg286
 z164 := Tryz.sizeOf286
 v164 := Tryz.zeroValue286 }
theorem sh_wb_extra : Builder.Extra Tryz.prog sh_wb_ren := {
 sizeBuilder := by kernel_rfl
 liesBuilder := by kernel_rfl
 t5 := Tryz.underlying5
 a5 := Tryz.isAgg5
 z5 := Tryz.sizeOf5
 v5 := Tryz.zeroValue5
 infoByte := by kernel_rfl
 cellsByte := by kernel_rfl
 sizeByte := by kernel_rfl
 neB5 := by decide }
open Go.RowKit in
theorem sh_Builder_WriteByte (B b : Nat) (bs : List Value) (c : Int) (w : World) (h : Go.Lib.IsBuilder 231 5 B b bs w) (hlen : bs.length + 1 ≤ 140737488355328) (hBw : B ≤ w.heap.size) :
 Calls Tryz.prog 224 #[.pointer (some ⟨b,0,none⟩),.int .u8 c] w fun e w' => e = .returned .nilIface ∧ (Go.Lib.BuilderAt 231 5 B b (.pointer (some ⟨b,0,none⟩)) (bs ++ [.int .u8 c]) w' ∧ Below B w w') := Any.Builder_WriteByte sh_wb sh_wb_extra B b bs c w h hlen hBw
open Go.RowKit in
theorem sh_Builder_WriteString (B b : Nat) (bs : List Value) (s : ByteArray) (w : World) (h : Go.Lib.IsBuilder 231 5 B b bs w) (hlen : bs.length + s.size ≤ 140737488355328) (hBw : B ≤ w.heap.size) :
 Calls Tryz.prog 172 #[.pointer (some ⟨b,0,none⟩),.string s] w fun e w' => e = .returned (.tuple #[.int .i64 s.size,.nilIface]) ∧ (Go.Lib.BuilderAt 231 5 B b (.pointer (some ⟨b,0,none⟩)) (bs ++ Go.Lib.strCells s) w' ∧ Below B w w') := Any.Builder_WriteString sh_ws sh_ws_extra B b bs s w h hlen hBw
end Go.Proofs.YtjlbacfedfkilaaGreat
