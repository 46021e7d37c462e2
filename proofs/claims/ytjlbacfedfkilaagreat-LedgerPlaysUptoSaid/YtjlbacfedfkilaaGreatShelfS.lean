/-
  slices.SortFunc laid at this program, of the kit's shelf (printed by wip/tools/shelfs.py).
-/
import Derived.Shelf.SlLaysF0
import Derived.Ground.SlsfProg
import Derived.Test.YtjlbacfedfkilaaGreatProg
namespace Go.Proofs.YtjlbacfedfkilaaGreat
open Go.Shelf
def sh_sortOp_ren : Go.Shelf.Ren := ⟨fun | 6 => 108 | 15 => 167 | 14 => 168 | 28 => 214 | 29 => 215 | 20 => 216 | 21 => 217 | 22 => 218 | 23 => 219 | 24 => 220 | 25 => 221 | 26 => 222 | 27 => 223 | 46 => 240 | 47 => 235 | 48 => 236 | 49 => 241 | 50 => 242 | 57 => 249 | n => n,fun | 22 => 37 | 24 => 36 | 25 => 161 | 3 => 3 | 39 => 213 | 0 => 0 | 53 => 208 | 55 => 212 | 4 => 4 | 46 => 259 | 45 => 258 | 50 => 205 | 5 => 5 | 9 => 9 | 66 => 278 | 70 => 282 | 76 => 293 | 77 => 294 | n => n,fun | n => n⟩
theorem sh_sortOp : Go.Proofs.SlLaysF0.n6 Tryz.prog sh_sortOp_ren := {
 mixed := by kernel_rfl
 f6 := ⟨Tryz.f108.name,by decide,Tryz.func108.trans (congrArg some (by kernel_rfl))⟩
 f14 := ⟨Tryz.f168.name,by decide,Tryz.func168.trans (congrArg some (by kernel_rfl))⟩
 f15 := Tryz.func167.trans (congrArg some (by kernel_rfl))
 f20 := ⟨Tryz.f216.name,by decide,Tryz.func216.trans (congrArg some (by kernel_rfl))⟩
 f21 := ⟨Tryz.f217.name,by decide,Tryz.func217.trans (congrArg some (by kernel_rfl))⟩
 f22 := ⟨Tryz.f218.name,by decide,Tryz.func218.trans (congrArg some (by kernel_rfl))⟩
 f23 := ⟨Tryz.f219.name,by decide,Tryz.func219.trans (congrArg some (by kernel_rfl))⟩
 f24 := ⟨Tryz.f220.name,by decide,Tryz.func220.trans (congrArg some (by kernel_rfl))⟩
 f25 := ⟨Tryz.f221.name,by decide,Tryz.func221.trans (congrArg some (by kernel_rfl))⟩
 f26 := ⟨Tryz.f222.name,by decide,Tryz.func222.trans (congrArg some (by kernel_rfl))⟩
 f27 := ⟨Tryz.f223.name,by decide,Tryz.func223.trans (congrArg some (by kernel_rfl))⟩
 f28 := Tryz.func214.trans (congrArg some (by kernel_rfl))
 f29 := Tryz.func215.trans (congrArg some (by kernel_rfl))
 f46 := ⟨Tryz.f240.name,by decide,Tryz.func240.trans (congrArg some (by kernel_rfl))⟩
 f47 := Tryz.func235.trans (congrArg some (by kernel_rfl))
 f48 := Tryz.func236.trans (congrArg some (by kernel_rfl))
 f49 := ⟨Tryz.f241.name,by decide,Tryz.func241.trans (congrArg some (by kernel_rfl))⟩
 f50 := ⟨Tryz.f242.name,by decide,Tryz.func242.trans (congrArg some (by kernel_rfl))⟩
 f57 := ⟨Tryz.f249.name,by decide,Tryz.func249.trans (congrArg some (by kernel_rfl))⟩
 t0 := Tryz.underlying0
 a0 := Tryz.isAgg0
 z0 := Tryz.sizeOf0
 v0 := Tryz.zeroValue0
 t3 := Tryz.underlying3
 a3 := Tryz.isAgg3
 z3 := Tryz.sizeOf3
 v3 := Tryz.zeroValue3
 t4 := Tryz.underlying4
 a4 := Tryz.isAgg4
 z4 := Tryz.sizeOf4
 v4 := Tryz.zeroValue4
 t5 := Tryz.underlying5
 a5 := Tryz.isAgg5
 z5 := Tryz.sizeOf5
 v5 := Tryz.zeroValue5
 t9 := Tryz.underlying9
 a9 := Tryz.isAgg9
 z9 := Tryz.sizeOf9
 v9 := Tryz.zeroValue9
 t22 := Tryz.underlying37
 a22 := Tryz.isAgg37
 z22 := Tryz.sizeOf37
 v22 := Tryz.zeroValue37
 t25 := Tryz.underlying161
 a25 := Tryz.isAgg161
 z25 := Tryz.sizeOf161
 v25 := Tryz.zeroValue161
 t39 := Tryz.underlying213
 a39 := Tryz.isAgg213
 z39 := Tryz.sizeOf213
 v39 := Tryz.zeroValue213
 t45 := Tryz.underlying258
 a45 := Tryz.isAgg258
 z45 := Tryz.sizeOf258
 v45 := Tryz.zeroValue258
 t46 := Tryz.underlying259
 a46 := Tryz.isAgg259
 z46 := Tryz.sizeOf259
 v46 := Tryz.zeroValue259
 t50 := Tryz.underlying205
 a50 := Tryz.isAgg205
 z50 := Tryz.sizeOf205
 v50 := Tryz.zeroValue205
 t53 := Tryz.underlying208
 a53 := Tryz.isAgg208
 z53 := Tryz.sizeOf208
 v53 := Tryz.zeroValue208
 t55 := Tryz.underlying212
 a55 := Tryz.isAgg212
 z55 := Tryz.sizeOf212
 v55 := Tryz.zeroValue212
 t66 := Tryz.underlying278
 a66 := Tryz.isAgg278
 z66 := Tryz.sizeOf278
 v66 := Tryz.zeroValue278
 t70 := Tryz.underlying282
 a70 := Tryz.isAgg282
 z70 := Tryz.sizeOf282
 v70 := Tryz.zeroValue282
 t76 := Tryz.underlying293
 a76 := Tryz.isAgg293
 z76 := Tryz.sizeOf293
 v76 := Tryz.zeroValue293
 t77 := Tryz.underlying294
 a77 := Tryz.isAgg294
 z77 := Tryz.sizeOf294
 v77 := Tryz.zeroValue294 }
end Go.Proofs.YtjlbacfedfkilaaGreat
