/-
 DERIVED: THE SHELF's CONTRACTS AT THIS DUMP, IN PLAIN WORDS (tools/lay-plain.mjs out of 'YthhaabhnlndnoaaGreatSrt.lean', which tools/lay-shelf.mjs wrote): THE SAME DECLARATIONS UNDER THE SAME NAMES: 'import', 'namespace', 'open', 'def', 'theorem' AND NOTHING ELSE: no command of the shelf's: FOR A HAND-IN. Each laying: the table of numbers ('.._ren') and one theorem, a field a fact of the dump's own or the kernel's comparison; each contract: ONE APPLICATION.
-/
import Derived.Shelf.Small.Bits
import Derived.Shelf.Strconv.Itoa0
import Derived.Shelf.Sort.Plain
import Derived.Ground.Names2Prog
import Derived.Shelf.Slices.CompactI
import Derived.Shelf.Slices.In.SortNone
import Derived.Ground.SlgcProg
import Derived.Shelf.SlicesG.Cmp
import Derived.Test.YthhaabhnlndnoaaGreatProg
namespace Go.Proofs
open Go.Shelf
def Tryz.lays189_ren : Go.Shelf.Ren := ⟨fun | 189 => 86 | 125 => 79 | 257 => 127 | 128 => 124 | 129 => 125 | 294 => 166 | 295 => 167 | 296 => 168 | 297 => 169 | 298 => 170 | 299 => 171 | 216 => 133 | 300 => 172 | 301 => 173 | 328 => 187 | 329 => 162 | 330 => 163 | 331 => 188 | 332 => 189 | 215 => 80 | 343 => 194 | n => n, fun | 28 => 24 | 3 => 3 | 46 => 106 | 0 => 0 | 51 => 133 | 53 => 135 | 4 => 4 | 183 => 127 | 182 => 126 | 131 => 64 | 5 => 5 | 9 => 9 | 218 => 159 | 222 => 163 | 228 => 178 | 229 => 179 | n => n, fun | n => n⟩
theorem Tryz.lays189 : Go.Proofs.Lays.n189 Tryz.prog Tryz.lays189_ren := {
 mixed := by kernel_rfl
 f125 := Tryz.func79.trans (congrArg some (by kernel_rfl))
 f128 := Tryz.func124.trans (congrArg some (by kernel_rfl))
 f129 := Tryz.func125.trans (congrArg some (by kernel_rfl))
 f189 := Tryz.func86.trans (congrArg some (by kernel_rfl))
 f215 := Tryz.func80.trans (congrArg some (by kernel_rfl))
 f216 := Tryz.func133.trans (congrArg some (by kernel_rfl))
 f257 := Tryz.func127.trans (congrArg some (by kernel_rfl))
 f294 := Tryz.func166.trans (congrArg some (by kernel_rfl))
 f295 := Tryz.func167.trans (congrArg some (by kernel_rfl))
 f296 := Tryz.func168.trans (congrArg some (by kernel_rfl))
 f297 := Tryz.func169.trans (congrArg some (by kernel_rfl))
 f298 := Tryz.func170.trans (congrArg some (by kernel_rfl))
 f299 := Tryz.func171.trans (congrArg some (by kernel_rfl))
 f300 := Tryz.func172.trans (congrArg some (by kernel_rfl))
 f301 := Tryz.func173.trans (congrArg some (by kernel_rfl))
 f328 := Tryz.func187.trans (congrArg some (by kernel_rfl))
 f329 := Tryz.func162.trans (congrArg some (by kernel_rfl))
 f330 := Tryz.func163.trans (congrArg some (by kernel_rfl))
 f331 := Tryz.func188.trans (congrArg some (by kernel_rfl))
 f332 := Tryz.func189.trans (congrArg some (by kernel_rfl))
 f343 := Tryz.func194.trans (congrArg some (by kernel_rfl))
 t0 := Tryz.underlying0
 a0 := Tryz.isAgg0
 z0 := Tryz.sizeOf0
 v0 := Tryz.zeroValue0
 t3 := Tryz.underlying3
 a3 := Tryz.isAgg3
 z3 := Tryz.sizeOf3
 v3 := Tryz.zeroValue3
 t4 := Tryz.underlying4
 a4 := Tryz.isAgg4
 z4 := Tryz.sizeOf4
 v4 := Tryz.zeroValue4
 t5 := Tryz.underlying5
 a5 := Tryz.isAgg5
 z5 := Tryz.sizeOf5
 v5 := Tryz.zeroValue5
 t9 := Tryz.underlying9
 a9 := Tryz.isAgg9
 z9 := Tryz.sizeOf9
 v9 := Tryz.zeroValue9
 t28 := Tryz.underlying24
 a28 := Tryz.isAgg24
 z28 := Tryz.sizeOf24
 v28 := Tryz.zeroValue24
 t46 := Tryz.underlying106
 a46 := Tryz.isAgg106
 z46 := Tryz.sizeOf106
 v46 := Tryz.zeroValue106
 t51 := Tryz.underlying133
 a51 := Tryz.isAgg133
 z51 := Tryz.sizeOf133
 v51 := Tryz.zeroValue133
 t53 := Tryz.underlying135
 a53 := Tryz.isAgg135
 z53 := Tryz.sizeOf135
 v53 := Tryz.zeroValue135
 t131 := Tryz.underlying64
 a131 := Tryz.isAgg64
 z131 := Tryz.sizeOf64
 v131 := Tryz.zeroValue64
 t182 := Tryz.underlying126
 a182 := Tryz.isAgg126
 z182 := Tryz.sizeOf126
 v182 := Tryz.zeroValue126
 t183 := Tryz.underlying127
 a183 := Tryz.isAgg127
 z183 := Tryz.sizeOf127
 v183 := Tryz.zeroValue127
 t218 := Tryz.underlying159
 a218 := Tryz.isAgg159
 z218 := Tryz.sizeOf159
 v218 := Tryz.zeroValue159
 t222 := Tryz.underlying163
 a222 := Tryz.isAgg163
 z222 := Tryz.sizeOf163
 v222 := Tryz.zeroValue163
 t228 := Tryz.underlying178
 a228 := Tryz.isAgg178
 z228 := Tryz.sizeOf178
 v228 := Tryz.zeroValue178
 t229 := Tryz.underlying179
 a229 := Tryz.isAgg179
 z229 := Tryz.sizeOf179
 v229 := Tryz.zeroValue179 }
def Tryz.laysNm220_ren : Go.Shelf.Ren := ⟨fun | 20 => 88 | n => n, fun | 22 => 24 | 3 => 3 | 4 => 4 | 0 => 0 | n => n, fun | n => n⟩
theorem Tryz.laysNm220 : Go.Proofs.Lays2.n20 Tryz.prog Tryz.laysNm220_ren := {
 mixed := by kernel_rfl
 f20 := Tryz.func88.trans (congrArg some (by kernel_rfl))
 t0 := Tryz.underlying0
 a0 := Tryz.isAgg0
 z0 := Tryz.sizeOf0
 v0 := Tryz.zeroValue0
 t3 := Tryz.underlying3
 a3 := Tryz.isAgg3
 z3 := Tryz.sizeOf3
 v3 := Tryz.zeroValue3
 t4 := Tryz.underlying4
 a4 := Tryz.isAgg4
 z4 := Tryz.sizeOf4
 v4 := Tryz.zeroValue4
 t22 := Tryz.underlying24
 a22 := Tryz.isAgg24
 z22 := Tryz.sizeOf24
 v22 := Tryz.zeroValue24
 i3 := by kernel_rfl }
end Go.Proofs
