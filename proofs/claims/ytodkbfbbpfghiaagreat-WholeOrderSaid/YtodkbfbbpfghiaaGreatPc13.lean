/-
  Lemmas and walks for the laws on roads and boards: what each function of the program answers, for every input.
-/
import Derived.Shelf.SlGeneric
import Derived.Shelf.SlIterI.Nil
import Derived.Shelf.SortM.Plain
import Derived.Shelf.SortM.SortNone
import Derived.Shelf.Slices.CompactI
import Derived.Shelf.Slices.SearchI
import Derived.Shelf.Slices.Clone
import Derived.Shelf.Slices.Turned
import Derived.Shelf.Slices.Empties
import Derived.Shelf.Spec.SlicesInsert
import Derived.Shelf.Spec.SlicesInsertGrow
import Derived.Ground.GgzProg
import Derived.Ground.SlgmProg
import Derived.Ground.NamesProg
import Derived.Ground.Names2Prog
import Derived.Test.YtodkbfbbpfghiaaGreatProg
import Derived.Shelf.SlicesE.Clone
import Derived.Shelf.SlicesE.DeleteFunc
import Derived.Shelf.SlIterI.Collect
import Derived.Shelf.Spec.SlicesGrow
import Derived.Ground.SlgnProg
import Derived.Ground.SlgfProg
import Derived.Ground.Names8Prog
import Derived.Test.YtodkbfbbpfghiaaGreatPc07
import Derived.Lib.OwnBridge
import Derived.Test.YtodkbfbbpfghiaaGreatPc06
set_option linter.unusedSimpArgs false
set_option linter.unusedVariables false
set_option linter.unnecessarySimpa false
namespace Go.Proofs
open Go.Shelf
def Tryz.keysA_ren : Go.Shelf.Ren := ⟨fun | 7 => 159 | 10 => 177 | n => n, fun | 23 => 116 | 26 => 3 | 3 => 4 | 28 => 158 | 0 => 0 | 27 => 125 | 33 => 102 | 4 => 4 | n => n, fun | n => n⟩
theorem Tryz.keysA : Go.Proofs.SlLaysZI.n7 Tryz.prog Tryz.keysA_ren := {
  mixed := by kernel_rfl
  f7 := ⟨Tryz.f159.name, by decide, Tryz.func159.trans (congrArg some (by kernel_rfl))⟩
  f10 := ⟨Tryz.f177.name, by decide, Tryz.func177.trans (congrArg some (by kernel_rfl))⟩
  t0 := Tryz.underlying0
  a0 := Tryz.isAgg0
  z0 := Tryz.sizeOf0
  v0 := Tryz.zeroValue0
  t4 := Tryz.underlying4
  a4 := Tryz.isAgg4
  z4 := Tryz.sizeOf4
  v4 := Tryz.zeroValue4
  t23 := Tryz.underlying116
  a23 := Tryz.isAgg116
  z23 := Tryz.sizeOf116
  v23 := Tryz.zeroValue116
  t26 := Tryz.underlying3
  a26 := Tryz.isAgg3
  z26 := Tryz.sizeOf3
  v26 := Tryz.zeroValue3
  t27 := Tryz.underlying125
  a27 := Tryz.isAgg125
  z27 := Tryz.sizeOf125
  v27 := Tryz.zeroValue125
  t28 := Tryz.underlying158
  a28 := Tryz.isAgg158
  z28 := Tryz.sizeOf158
  v28 := Tryz.zeroValue158
  t33 := Tryz.underlying102
  a33 := Tryz.isAgg102
  z33 := Tryz.sizeOf102
  v33 := Tryz.zeroValue102 }
def Tryz.sortedA_ren : Go.Shelf.Ren := ⟨fun | 6 => 158 | 8 => 127 | 9 => 130 | 11 => 155 | 13 => 157 | 12 => 156 | 23 => 175 | 24 => 176 | 14 => 167 | 15 => 168 | 16 => 169 | 17 => 170 | 18 => 171 | 19 => 172 | 20 => 152 | 21 => 173 | 22 => 174 | 25 => 178 | 26 => 179 | 27 => 180 | 28 => 181 | 29 => 182 | 30 => 165 | 31 => 183 | n => n, fun | 26 => 3 | 28 => 158 | 24 => 34 | 0 => 0 | 3 => 3 | 37 => 155 | 48 => 165 | 50 => 168 | 4 => 4 | 40 => 173 | 39 => 172 | 45 => 132 | 5 => 5 | 9 => 9 | 51 => 179 | 55 => 183 | 57 => 185 | 58 => 186 | 33 => 102 | n => n, fun | n => n⟩
theorem Tryz.sortedA : Go.Proofs.SlLaysZI.n6 Tryz.prog Tryz.sortedA_ren := {
  mixed := by kernel_rfl
  f6 := ⟨Tryz.f158.name, by decide, Tryz.func158.trans (congrArg some (by kernel_rfl))⟩
  f8 := ⟨Tryz.f127.name, by decide, Tryz.func127.trans (congrArg some (by kernel_rfl))⟩
  f11 := ⟨Tryz.f155.name, by decide, Tryz.func155.trans (congrArg some (by kernel_rfl))⟩
  t0 := Tryz.underlying0
  a0 := Tryz.isAgg0
  z0 := Tryz.sizeOf0
  v0 := Tryz.zeroValue0
  t24 := Tryz.underlying34
  a24 := Tryz.isAgg34
  z24 := Tryz.sizeOf34
  v24 := Tryz.zeroValue34
  t26 := Tryz.underlying3
  a26 := Tryz.isAgg3
  z26 := Tryz.sizeOf3
  v26 := Tryz.zeroValue3
  t28 := Tryz.underlying158
  a28 := Tryz.isAgg158
  z28 := Tryz.sizeOf158
  v28 := Tryz.zeroValue158
  i26 := by kernel_rfl }
def Tryz.sortA_ren : Go.Shelf.Ren := ⟨fun | 5 => 130 | 8 => 157 | 7 => 156 | 19 => 175 | 20 => 176 | 10 => 167 | 11 => 168 | 12 => 169 | 13 => 170 | 14 => 171 | 15 => 172 | 16 => 152 | 17 => 173 | 18 => 174 | 30 => 178 | 31 => 179 | 32 => 180 | 33 => 181 | 34 => 182 | 35 => 165 | 40 => 183 | n => n, fun | 23 => 34 | 25 => 3 | 3 => 3 | 32 => 155 | 22 => 34 | 0 => 0 | 44 => 165 | 46 => 168 | 4 => 4 | 36 => 173 | 35 => 172 | 41 => 132 | 5 => 5 | 9 => 9 | 53 => 179 | 57 => 183 | 63 => 185 | 64 => 186 | n => n, fun | n => n⟩
theorem Tryz.sortA : Go.Proofs.SlLaysM.n5 Tryz.prog Tryz.sortA_ren := {
  mixed := by kernel_rfl
  f5 := ⟨Tryz.f130.name, by decide, Tryz.func130.trans (congrArg some (by kernel_rfl))⟩
  f7 := ⟨Tryz.f156.name, by decide, Tryz.func156.trans (congrArg some (by kernel_rfl))⟩
  f8 := Tryz.func157.trans (congrArg some (by kernel_rfl))
  f10 := ⟨Tryz.f167.name, by decide, Tryz.func167.trans (congrArg some (by kernel_rfl))⟩
  f11 := ⟨Tryz.f168.name, by decide, Tryz.func168.trans (congrArg some (by kernel_rfl))⟩
  f12 := ⟨Tryz.f169.name, by decide, Tryz.func169.trans (congrArg some (by kernel_rfl))⟩
  f13 := ⟨Tryz.f170.name, by decide, Tryz.func170.trans (congrArg some (by kernel_rfl))⟩
  f14 := ⟨Tryz.f171.name, by decide, Tryz.func171.trans (congrArg some (by kernel_rfl))⟩
  f15 := ⟨Tryz.f172.name, by decide, Tryz.func172.trans (congrArg some (by kernel_rfl))⟩
  f16 := ⟨Tryz.f152.name, by decide, Tryz.func152.trans (congrArg some (by kernel_rfl))⟩
  f17 := ⟨Tryz.f173.name, by decide, Tryz.func173.trans (congrArg some (by kernel_rfl))⟩
  f18 := ⟨Tryz.f174.name, by decide, Tryz.func174.trans (congrArg some (by kernel_rfl))⟩
  f19 := Tryz.func175.trans (congrArg some (by kernel_rfl))
  f20 := Tryz.func176.trans (congrArg some (by kernel_rfl))
  f30 := ⟨Tryz.f178.name, by decide, Tryz.func178.trans (congrArg some (by kernel_rfl))⟩
  f31 := Tryz.func179.trans (congrArg some (by kernel_rfl))
  f32 := Tryz.func180.trans (congrArg some (by kernel_rfl))
  f33 := ⟨Tryz.f181.name, by decide, Tryz.func181.trans (congrArg some (by kernel_rfl))⟩
  f34 := ⟨Tryz.f182.name, by decide, Tryz.func182.trans (congrArg some (by kernel_rfl))⟩
  f35 := ⟨Tryz.f165.name, by decide, Tryz.func165.trans (congrArg some (by kernel_rfl))⟩
  f40 := ⟨Tryz.f183.name, by decide, Tryz.func183.trans (congrArg some (by kernel_rfl))⟩
  t0 := Tryz.underlying0
  a0 := Tryz.isAgg0
  z0 := Tryz.sizeOf0
  v0 := Tryz.zeroValue0
  t3 := Tryz.underlying3
  a3 := Tryz.isAgg3
  z3 := Tryz.sizeOf3
  v3 := Tryz.zeroValue3
  t4 := Tryz.underlying4
  a4 := Tryz.isAgg4
  z4 := Tryz.sizeOf4
  v4 := Tryz.zeroValue4
  t5 := Tryz.underlying5
  a5 := Tryz.isAgg5
  z5 := Tryz.sizeOf5
  v5 := Tryz.zeroValue5
  t9 := Tryz.underlying9
  a9 := Tryz.isAgg9
  z9 := Tryz.sizeOf9
  v9 := Tryz.zeroValue9
  t22 := Tryz.underlying34
  a22 := Tryz.isAgg34
  z22 := Tryz.sizeOf34
  v22 := Tryz.zeroValue34
  t23 := Tryz.underlying34
  a23 := Tryz.isAgg34
  z23 := Tryz.sizeOf34
  v23 := Tryz.zeroValue34
  t25 := Tryz.underlying3
  a25 := Tryz.isAgg3
  z25 := Tryz.sizeOf3
  v25 := Tryz.zeroValue3
  t32 := Tryz.underlying155
  a32 := Tryz.isAgg155
  z32 := Tryz.sizeOf155
  v32 := Tryz.zeroValue155
  t35 := Tryz.underlying172
  a35 := Tryz.isAgg172
  z35 := Tryz.sizeOf172
  v35 := Tryz.zeroValue172
  t36 := Tryz.underlying173
  a36 := Tryz.isAgg173
  z36 := Tryz.sizeOf173
  v36 := Tryz.zeroValue173
  t41 := Tryz.underlying132
  a41 := Tryz.isAgg132
  z41 := Tryz.sizeOf132
  v41 := Tryz.zeroValue132
  t44 := Tryz.underlying165
  a44 := Tryz.isAgg165
  z44 := Tryz.sizeOf165
  v44 := Tryz.zeroValue165
  t46 := Tryz.underlying168
  a46 := Tryz.isAgg168
  z46 := Tryz.sizeOf168
  v46 := Tryz.zeroValue168
  t53 := Tryz.underlying179
  a53 := Tryz.isAgg179
  z53 := Tryz.sizeOf179
  v53 := Tryz.zeroValue179
  t57 := Tryz.underlying183
  a57 := Tryz.isAgg183
  z57 := Tryz.sizeOf183
  v57 := Tryz.zeroValue183
  t63 := Tryz.underlying185
  a63 := Tryz.isAgg185
  z63 := Tryz.sizeOf185
  v63 := Tryz.zeroValue185
  t64 := Tryz.underlying186
  a64 := Tryz.isAgg186
  z64 := Tryz.sizeOf186
  v64 := Tryz.zeroValue186 }
def Tryz.compactA_ren : Go.Shelf.Ren := ⟨fun | 20 => 141 | n => n, fun | 22 => 34 | 3 => 3 | 4 => 4 | 0 => 0 | n => n, fun | n => n⟩
theorem Tryz.compactA : Go.Proofs.Lays2.n20 Tryz.prog Tryz.compactA_ren := {
  mixed := by kernel_rfl
  f20 := Tryz.func141.trans (congrArg some (by kernel_rfl))
  t0 := Tryz.underlying0
  a0 := Tryz.isAgg0
  z0 := Tryz.sizeOf0
  v0 := Tryz.zeroValue0
  t3 := Tryz.underlying3
  a3 := Tryz.isAgg3
  z3 := Tryz.sizeOf3
  v3 := Tryz.zeroValue3
  t4 := Tryz.underlying4
  a4 := Tryz.isAgg4
  z4 := Tryz.sizeOf4
  v4 := Tryz.zeroValue4
  t22 := Tryz.underlying34
  a22 := Tryz.isAgg34
  z22 := Tryz.sizeOf34
  v22 := Tryz.zeroValue34
  i3 := by kernel_rfl }
def Tryz.searchA_ren : Go.Shelf.Ren := ⟨fun | 25 => 124 | 31 => 152 | 32 => 153 | 37 => 165 | n => n, fun | 22 => 34 | 3 => 3 | 4 => 4 | 40 => 155 | 0 => 0 | n => n, fun | n => n⟩
theorem Tryz.searchA : Go.Proofs.Lays2.n25 Tryz.prog Tryz.searchA_ren := {
  mixed := by kernel_rfl
  f25 := Tryz.func124.trans (congrArg some (by kernel_rfl))
  f31 := Tryz.func152.trans (congrArg some (by kernel_rfl))
  f32 := Tryz.func153.trans (congrArg some (by kernel_rfl))
  f37 := Tryz.func165.trans (congrArg some (by kernel_rfl))
  t0 := Tryz.underlying0
  a0 := Tryz.isAgg0
  z0 := Tryz.sizeOf0
  v0 := Tryz.zeroValue0
  t3 := Tryz.underlying3
  a3 := Tryz.isAgg3
  z3 := Tryz.sizeOf3
  v3 := Tryz.zeroValue3
  t4 := Tryz.underlying4
  a4 := Tryz.isAgg4
  z4 := Tryz.sizeOf4
  v4 := Tryz.zeroValue4
  t22 := Tryz.underlying34
  a22 := Tryz.isAgg34
  z22 := Tryz.sizeOf34
  v22 := Tryz.zeroValue34
  t40 := Tryz.underlying155
  a40 := Tryz.isAgg155
  z40 := Tryz.sizeOf155
  v40 := Tryz.zeroValue155 }
def Tryz.insertA_ren : Go.Shelf.Ren := ⟨fun | 21 => 90 | 27 => 125 | 28 => 126 | 35 => 154 | 39 => 166 | n => n, fun | 22 => 34 | 3 => 3 | 4 => 4 | 0 => 0 | n => n, fun | n => n⟩
theorem Tryz.insertA : Go.Proofs.Lays2.n21 Tryz.prog Tryz.insertA_ren := {
  mixed := by kernel_rfl
  f21 := Tryz.func90.trans (congrArg some (by kernel_rfl))
  f27 := Tryz.func125.trans (congrArg some (by kernel_rfl))
  f28 := Tryz.func126.trans (congrArg some (by kernel_rfl))
  f35 := Tryz.func154.trans (congrArg some (by kernel_rfl))
  f39 := Tryz.func166.trans (congrArg some (by kernel_rfl))
  t0 := Tryz.underlying0
  a0 := Tryz.isAgg0
  z0 := Tryz.sizeOf0
  v0 := Tryz.zeroValue0
  t3 := Tryz.underlying3
  a3 := Tryz.isAgg3
  z3 := Tryz.sizeOf3
  v3 := Tryz.zeroValue3
  t4 := Tryz.underlying4
  a4 := Tryz.isAgg4
  z4 := Tryz.sizeOf4
  v4 := Tryz.zeroValue4
  t22 := Tryz.underlying34
  a22 := Tryz.isAgg34
  z22 := Tryz.sizeOf34
  v22 := Tryz.zeroValue34
  i3 := by kernel_rfl }
def Tryz.cloneA_ren : Go.Shelf.Ren := ⟨fun | 15 => 111 | n => n, fun | 22 => 34 | 3 => 3 | 4 => 4 | n => n, fun | n => n⟩
theorem Tryz.cloneA : Go.Proofs.Lays2.n15 Tryz.prog Tryz.cloneA_ren := {
  mixed := by kernel_rfl
  f15 := Tryz.func111.trans (congrArg some (by kernel_rfl))
  t3 := Tryz.underlying3
  a3 := Tryz.isAgg3
  z3 := Tryz.sizeOf3
  v3 := Tryz.zeroValue3
  t4 := Tryz.underlying4
  a4 := Tryz.isAgg4
  z4 := Tryz.sizeOf4
  v4 := Tryz.zeroValue4
  t22 := Tryz.underlying34
  a22 := Tryz.isAgg34
  z22 := Tryz.sizeOf34
  v22 := Tryz.zeroValue34
  i3 := by kernel_rfl }
def Tryz.clonePA_ren : Go.Shelf.Ren := ⟨fun | 41 => 110 | n => n, fun | 22 => 22 | 23 => 49 | 4 => 4 | n => n, fun | n => n⟩
theorem Tryz.clonePA : Go.Proofs.SlLaysE0.n41 Tryz.prog Tryz.clonePA_ren := {
  mixed := by kernel_rfl
  f41 := ⟨Tryz.f110.name, by decide, Tryz.func110.trans (congrArg some (by kernel_rfl))⟩
  t4 := Tryz.underlying4
  a4 := Tryz.isAgg4
  z4 := Tryz.sizeOf4
  v4 := Tryz.zeroValue4
  t22 := Tryz.underlying22
  a22 := Tryz.isAgg22
  z22 := Tryz.sizeOf22
  v22 := Tryz.zeroValue22 }
def Tryz.delFA_ren : Go.Shelf.Ren := ⟨fun | 10 => 128 | 6 => 145 | n => n, fun | 22 => 34 | 23 => 3 | 25 => 102 | 3 => 3 | 4 => 4 | 0 => 0 | n => n, fun | n => n⟩
theorem Tryz.delFA : Go.Proofs.SlLaysH.n10 Tryz.prog Tryz.delFA_ren := {
  mixed := by kernel_rfl
  f6 := ⟨Tryz.f145.name, by decide, Tryz.func145.trans (congrArg some (by kernel_rfl))⟩
  f10 := ⟨Tryz.f128.name, by decide, Tryz.func128.trans (congrArg some (by kernel_rfl))⟩
  t0 := Tryz.underlying0
  a0 := Tryz.isAgg0
  z0 := Tryz.sizeOf0
  v0 := Tryz.zeroValue0
  t3 := Tryz.underlying3
  a3 := Tryz.isAgg3
  z3 := Tryz.sizeOf3
  v3 := Tryz.zeroValue3
  t4 := Tryz.underlying4
  a4 := Tryz.isAgg4
  z4 := Tryz.sizeOf4
  v4 := Tryz.zeroValue4
  t22 := Tryz.underlying34
  a22 := Tryz.isAgg34
  z22 := Tryz.sizeOf34
  v22 := Tryz.zeroValue34
  a23 := Tryz.isAgg3
  z23 := Tryz.sizeOf3
  t25 := Tryz.underlying102
  a25 := Tryz.isAgg102
  z25 := Tryz.sizeOf102
  v25 := Tryz.zeroValue102 }
def Tryz.growIA_ren : Go.Shelf.Ren := ⟨fun | 4 => 162 | n => n, fun | 22 => 34 | 25 => 3 | 3 => 3 | 4 => 4 | 9 => 9 | 20 => 20 | 0 => 0 | n => n, fun | n => n⟩
theorem Tryz.growIA : Go.Proofs.Lays8.n4 Tryz.prog Tryz.growIA_ren := {
  mixed := by kernel_rfl
  f4 := ⟨Tryz.f162.name, by decide, Tryz.func162.trans (congrArg some (by kernel_rfl))⟩
  t0 := Tryz.underlying0
  a0 := Tryz.isAgg0
  z0 := Tryz.sizeOf0
  v0 := Tryz.zeroValue0
  t3 := Tryz.underlying3
  a3 := Tryz.isAgg3
  z3 := Tryz.sizeOf3
  v3 := Tryz.zeroValue3
  t4 := Tryz.underlying4
  a4 := Tryz.isAgg4
  z4 := Tryz.sizeOf4
  v4 := Tryz.zeroValue4
  t9 := Tryz.underlying9
  a9 := Tryz.isAgg9
  z9 := Tryz.sizeOf9
  v9 := Tryz.zeroValue9
  t20 := Tryz.underlying20
  a20 := Tryz.isAgg20
  z20 := Tryz.sizeOf20
  v20 := Tryz.zeroValue20
  t22 := Tryz.underlying34
  a22 := Tryz.isAgg34
  z22 := Tryz.sizeOf34
  v22 := Tryz.zeroValue34 }
def Tryz.growRA_ren : Go.Shelf.Ren := ⟨fun | 4 => 146 | n => n, fun | 22 => 35 | 25 => 33 | 3 => 3 | 4 => 4 | 9 => 9 | 20 => 20 | 0 => 0 | 2 => 3 | n => n, fun | n => n⟩
theorem Tryz.growRA : Go.Proofs.Lays8.n4 Tryz.prog Tryz.growRA_ren := {
  mixed := by kernel_rfl
  f4 := ⟨Tryz.f146.name, by decide, Tryz.func146.trans (congrArg some (by kernel_rfl))⟩
  t0 := Tryz.underlying0
  a0 := Tryz.isAgg0
  z0 := Tryz.sizeOf0
  v0 := Tryz.zeroValue0
  t3 := Tryz.underlying3
  a3 := Tryz.isAgg3
  z3 := Tryz.sizeOf3
  v3 := Tryz.zeroValue3
  t4 := Tryz.underlying4
  a4 := Tryz.isAgg4
  z4 := Tryz.sizeOf4
  v4 := Tryz.zeroValue4
  t9 := Tryz.underlying9
  a9 := Tryz.isAgg9
  z9 := Tryz.sizeOf9
  v9 := Tryz.zeroValue9
  t20 := Tryz.underlying20
  a20 := Tryz.isAgg20
  z20 := Tryz.sizeOf20
  v20 := Tryz.zeroValue20
  t22 := Tryz.underlying35
  a22 := Tryz.isAgg35
  z22 := Tryz.sizeOf35
  v22 := Tryz.zeroValue35 }
def Tryz.growFA_ren : Go.Shelf.Ren := ⟨fun | 4 => 147 | n => n, fun | 22 => 81 | 25 => 4 | 3 => 3 | 4 => 4 | 9 => 9 | 20 => 20 | 0 => 0 | n => n, fun | n => n⟩
theorem Tryz.growFA : Go.Proofs.Lays8.n4 Tryz.prog Tryz.growFA_ren := {
  mixed := by kernel_rfl
  f4 := ⟨Tryz.f147.name, by decide, Tryz.func147.trans (congrArg some (by kernel_rfl))⟩
  t0 := Tryz.underlying0
  a0 := Tryz.isAgg0
  z0 := Tryz.sizeOf0
  v0 := Tryz.zeroValue0
  t3 := Tryz.underlying3
  a3 := Tryz.isAgg3
  z3 := Tryz.sizeOf3
  v3 := Tryz.zeroValue3
  t4 := Tryz.underlying4
  a4 := Tryz.isAgg4
  z4 := Tryz.sizeOf4
  v4 := Tryz.zeroValue4
  t9 := Tryz.underlying9
  a9 := Tryz.isAgg9
  z9 := Tryz.sizeOf9
  v9 := Tryz.zeroValue9
  t20 := Tryz.underlying20
  a20 := Tryz.isAgg20
  z20 := Tryz.sizeOf20
  v20 := Tryz.zeroValue20
  t22 := Tryz.underlying81
  a22 := Tryz.isAgg81
  z22 := Tryz.sizeOf81
  v22 := Tryz.zeroValue81 }
end Go.Proofs
namespace Go.Proofs.YtodkbfbbpfghiaaGreat
open Go.RowKit Go.Shelf Go.Sort Go.Lib
set_option maxHeartbeats 1000000
set_option maxRecDepth 100000
/-- A new row. -/
def RowPost (w : World) (t : TypeId) (size n : Nat) (xs : List Value) (e : Ending) (w' : World) : Prop := ∃ v, e = .returned v ∧ Below w.heap.size w w' ∧ w'.ownsRow w.heap.size t size v n xs
theorem IntsAt.cells {w : World} {n cap : Nat} {x : Addr} {xs : List Int} (h : IntsAt w (some x) n cap xs) : x.spot = none ∧ x.block < w.heap.size ∧ ∀ j, j < xs.length → w.cell? ⟨x.block, x.off + j, none⟩ = some (.int .i64 (xs.getD j 0)) := by
  obtain ⟨h1, h2, h3⟩ := h.row.at_ _ rfl
  refine ⟨h1, h2, fun j hj => ?_⟩
  exact h3 j _ (by simp [List.getD_eq_getElem?_getD, hj])
theorem cloneI (a : Option Addr) (n cap : Nat) (xs : List Int) (w : World) (hx : IntsAt w a n cap xs) (hs : xs.length ≤ 1000000) :
    Calls Tryz.prog 111 #[.slice a n cap] w (RowPost w 3 1 xs.length (xs.map (.int .i64))) := by
  obtain rfl := hx.len
  match a, hx with
  | none, hx =>
    obtain ⟨h0, h1⟩ := hx.row.nil rfl
    have h2 : xs = [] := by simpa using h0
    subst h2
    refine (Any.slices_Clone_int_nil Tryz.cloneA _ _ w).mono ?_
    rintro e w' ⟨rfl, rfl⟩
    exact ⟨_, rfl, Below.refl _ _, World.ownsRow_nil _ _ _ _⟩
  | some ⟨b, o, sp⟩, hx =>
    obtain ⟨rfl, hb, hc⟩ := hx.cells
    refine (Any.slices_Clone_int Tryz.cloneA b o xs.length cap xs w (Nat.le_refl _) (by omega) hc).mono ?_
    rintro e w' ⟨v, rfl, ho, _, hb⟩
    rw [List.take_length] at ho
    exact ⟨v, rfl, hb, ho⟩
theorem run_append_zero {P : Program} {w : World} (t ty e : TypeId) (i : TypeInfo) (ht : P.underlying t = some (.slice e)) (hi : P.info? e = some i) (p : Option Addr) (n cap c : Nat) (sa : Option Addr) (hn : n ≤ cap) :
    (Builtin.append_ #[t, t] ty #[.slice p n cap, .slice sa 0 c]).run P w = .ok (.slice p n cap) w := by
  have hf : (Builtin.firstCells i.size 0 (.slice sa 0 c)).run P w = .ok #[] w := by
    cases sa with
    | none => exact run_firstCells_none w i.size 0 0 c
    | some a => simpa using run_firstCells_some (P := P) w i.size 0 a 0 c [] (by simp) (by simp)
  cases p <;> simp [Builtin.append_, run_underlying ht, sizeOf, typeInfo, hi, Builtin.lenOf, hf, hn, storeCells]
theorem wpList_app_zero {P : Program} {w : World} {ops : Array Oper} {rest : List Oper} {o : Oper} {a : Act} {Q : Exit → Act → World → Prop} {t e : TypeId} {z : Value} {size bytes : Nat} (T : Elem P t e z size bytes)
    (hgd : o.guard = none) (s x : Operand) (ho : o.op = .call { callee := .builtin .append, args := #[s, x], argTypes := #[t, t] }) {p : Option Addr} {n cap : Nat} (hs : a.eval s = .slice p n cap) (hn : n ≤ cap) {sa : Option Addr} {c : Nat} (hx : a.eval x = .slice sa 0 c)
    (h : wpList P ops Q rest (a.put o.dst (.slice p n cap)) w) : wpList P ops Q (o :: rest) a w :=
  wpList_plain hgd fun _ hK => by
    obtain ⟨i, hi, _⟩ := T.info
    have hrun := run_append_zero (P := P) (w := w) t o.type e i T.und hi p n cap c sa hn
    unfold Oper.wp
    simp [execOp, ho, resolve, invoke, builtin, hs, hx, hrun, Result.andThen]
    exact hK _ _ h
/-- Clone of a list that is empty and lies anywhere. -/
theorem clone0 (x : Addr) (w : World) : Calls Tryz.prog 111 #[.slice (some x) 0 0] w (RowPost w 3 1 0 []) := by
  have he : ∀ W : World, (binOp .eql 34 (.slice (some x) 0 0) (.slice none 0 0)).run Tryz.prog W = .ok (.bool false) W := fun _ => rfl
  go_enter Tryz.func111, Tryz.ntmps111
  go_wp2_with (at_builtin; refine wpList_app_zero elemI rfl _ _ rfl rfl (Nat.le_refl _) rfl ?_)
  refine bodyPost_ret (v := .slice (some ⟨w.heap.size, 0, none⟩) 0 0) (by simp [results, Tryz.results111, go_sem]) rfl ⟨_, rfl, one_alloc _ _, World.ownsRow_lit (size := 1) w #[] 0 (Nat.le_refl _) (by decide) rfl⟩
theorem cloneL (a : Option Addr) (n cap : Nat) (xs : List Int) (w : World) (hx : LAt w a n cap xs) (hs : xs.length ≤ 1000000) :
    Calls Tryz.prog 111 #[.slice a n cap] w (RowPost w 3 1 xs.length (xs.map (.int .i64))) := by
  rcases hx with hx | ⟨rfl, rfl, rfl⟩
  · exact cloneI a n cap xs w hx hs
  · cases a with
    | none => exact cloneI none 0 0 [] w (IntsAt.nilAt w) hs
    | some x => exact clone0 x w
theorem cloneP (a : Option Addr) (n cap : Nat) (ps : List Pt) (w : World) (hx : PtsAt w a n cap ps) (hs : ps.length ≤ 1000) :
    Calls Tryz.prog 110 #[.slice a n cap] w (RowPost w 49 8 ps.length (pcs ps)) := by
  obtain rfl := hx.len
  match a, hx with
  | none, hx =>
    obtain ⟨h0, h1⟩ := hx.row.nil rfl
    have hl := pcs_length ps
    rw [h0] at hl
    have h2 : ps = [] := List.eq_nil_of_length_eq_zero (by simp at hl; omega)
    subst h2
    refine (AnyE.slices_Clone_nil Tryz.clonePA _ _ w).mono ?_
    rintro e w' ⟨rfl, rfl⟩
    exact ⟨_, rfl, Below.refl _ _, World.ownsRow_nil _ _ _ _⟩
  | some ⟨b, o, sp⟩, hx =>
    obtain ⟨h1, h2, h3⟩ := hx.row.at_ _ rfl
    simp only at h1
    subst h1
    obtain ⟨i, hi, hz, hz1, hz2⟩ := elemP.info
    refine (AnyE.slices_Clone Tryz.clonePA i _ 8 96 hi hz hz1 hz2 elemP.zs (by omega) (fun w => Tryz.sizeOf49 w) b o ps.length cap (pcs ps) w (pcs_length ps) (by unfold maxLen; omega) (by omega) (fun j u hj => h3 j u hj) (pcs_one ps)).mono ?_
    rintro e w' ⟨v, rfl, ho, _, hb⟩
    exact ⟨v, rfl, hb, ho⟩
theorem sortI (v : Value) (n base : Nat) (xs : List Int) (w : World) (h : w.ownsRow base 3 1 v n (xs.map (.int .i64))) (hs : xs.length ≤ 1000000) :
    Calls Tryz.prog 130 #[v] w fun e w' => e = .returned (.tuple #[]) ∧ w'.ownsRow base 3 1 v n ((xs.mergeSort fun x y => decide (x ≤ y)).map (.int .i64)) ∧ SL.Chg v.ownBlock.toList w w' := by
  obtain ⟨hl, ⟨rfl, hn⟩ | ⟨g, cap, cur, rfl, hbg, hg, h1, h2, h3, h4⟩⟩ := h
  · subst hn
    simp at hl
    subst hl
    refine (AnyM.slices_Sort_int_none Tryz.sortA none 0 w).mono ?_
    rintro e w' ⟨rfl, rfl⟩
    exact ⟨rfl, by simpa using World.ownsRow_nil w' base 3 1, .refl _ _⟩
  · have hn : xs.length = n := by simpa using hl
    subst hn
    simp only [Nat.mul_one] at h4
    have hgl : g < w.heap.size := (Array.getElem?_eq_some_iff.1 hg).1
    refine (AnyM.slices_Sort_int Tryz.sortA g 0 cap xs w (holds_of_block_i hg h4) hgl (by omega)).mono ?_
    rintro e w' ⟨rfl, q, os, rfl⟩
    exact ⟨rfl, ownsRow_sorted_i (sort_len xs) hbg hg h1 h2 h3, .of_grown (grownBy_sorted_i _) (by simp [Value.ownBlock])⟩
theorem compactI (v : Value) (n base : Nat) (xs : List Int) (w : World) (h : w.ownsRow base 3 1 v n (xs.map (.int .i64))) (hs : xs.length ≤ 1000000) :
    Calls Tryz.prog 141 #[v] w fun e w' => ∃ v', e = .returned v' ∧ w'.ownsRow base 3 1 v' (Lib.compact xs).length ((Lib.compact xs).map (.int .i64)) ∧ SL.Chg v.ownBlock.toList w w' ∧ v'.ownBlock = v.ownBlock := by
  have hcl := Lib.compact_length_le xs
  have h' := h
  obtain ⟨hl, ⟨rfl, hn⟩ | ⟨g, cap, cur, rfl, hbg, hg, h1, h2, h3, h4⟩⟩ := h
  · subst hn
    simp at hl
    subst hl
    refine (Any.slices_Compact_int_empty Tryz.compactA none 0 w).mono ?_
    rintro e w' ⟨rfl, rfl⟩
    exact ⟨_, rfl, World.ownsRow_nil _ _ _ _, .refl _ _, rfl⟩
  · have hn : xs.length = n := by simpa using hl
    subst hn
    simp only [Nat.mul_one] at h4
    have hgl : g < w.heap.size := (Array.getElem?_eq_some_iff.1 hg).1
    refine (Any.slices_Compact_int Tryz.compactA g 0 cap xs w (holds_of_block_i hg h4) (by omega) h1).mono ?_
    rintro e w' ⟨rfl, q, rfl⟩
    have ho := Lib.ownsRow_putRow (enc := Value.int .i64) (q := q) (ys := Lib.compact xs ++ List.replicate (xs.length - (Lib.compact xs).length) 0) h' (by simp; omega) hcl
    rw [List.take_left] at ho
    refine ⟨_, rfl, ho, ⟨rfl, rfl, rfl, by simp [putRow, mapBlock, Sort.ahead], fun k hk hne => ?_⟩, rfl⟩
    have hgk : g ≠ k := fun e => hne (by simp [Value.ownBlock, e])
    simp [putRow, mapBlock, Sort.ahead, Array.getElem?_modify, hgk]
theorem searchI (a : Option Addr) (n cap : Nat) (xs : List Int) (x : Int) (w : World) (hx : IntsAt w a n cap xs) (hp : xs.Pairwise (· ≤ ·)) (hs : xs.length ≤ 1000000) :
    Calls Tryz.prog 124 #[.slice a n cap, .int .i64 x] w fun e w' => e = .returned (.tuple #[.int .i64 (before xs x : Nat), .bool (xs.contains x)]) ∧ Below w.heap.size w w' := by
  obtain rfl := hx.len
  match a, hx with
  | none, hx =>
    obtain ⟨h0, h1⟩ := hx.row.nil rfl
    have h2 : xs = [] := by simpa using h0
    subst h2
    refine (Any.slices_BinarySearch_int_empty Tryz.searchA _ _ _ w).mono ?_
    rintro e w' ⟨rfl, rfl⟩
    exact ⟨rfl, Below.refl _ _⟩
  | some ⟨b, o, sp⟩, hx =>
    obtain ⟨rfl, hb, hc⟩ := hx.cells
    refine (Any.slices_BinarySearch_int Tryz.searchA b o xs.length cap xs x w (Nat.le_refl _) (by omega) hc (by rw [List.take_length]; exact hp)).mono ?_
    rintro e w' ⟨rfl, q, rfl⟩
    rw [List.take_length]
    exact ⟨rfl, belowN (Below.refl _ _)⟩
set_option maxHeartbeats 4000000
/-- A slice, and the cells that it holds. -/
structure Rw where
  a : Option Addr
  n : Nat
  cap : Nat
  vs : List Value
instance : Inhabited Rw := ⟨⟨none, 0, 0, []⟩⟩
def Rw.v (r : Rw) : Value := .slice r.a r.n r.cap
structure RwOk (w : World) (size : Nat) (r : Rw) : Prop where
  row : RowAt w r.a r.cap r.vs ∨ r.n = 0
  len : r.vs.length = r.n * size
  one : ∀ u ∈ r.vs, u.oneCell' = true
  few : r.n ≤ 1000000
theorem RwOk.below {w w' : World} {size : Nat} {r : Rw} (h : RwOk w size r) (hb : Below w.heap.size w w') : RwOk w' size r := ⟨h.row.imp (fun h => h.below hb) id, h.len, h.one, h.few⟩
/-- A slice of slices. -/
structure RwsAt (w : World) (size : Nat) (a : Option Addr) (n cap : Nat) (rs : List Rw) : Prop where
  len : n = rs.length
  small : rs.length ≤ 1000
  row : RowAt w a cap (rs.map Rw.v)
  each : ∀ r ∈ rs, RwOk w size r
theorem RwsAt.below {w w' : World} {size : Nat} {a : Option Addr} {n cap : Nat} {rs : List Rw} (h : RwsAt w size a n cap rs) (hb : Below w.heap.size w w') : RwsAt w' size a n cap rs := ⟨h.len, h.small, h.row.below hb, fun r hr => (h.each r hr).below hb⟩
theorem RwsAt.get {w : World} {size : Nat} {a : Option Addr} {n cap : Nat} {rs : List Rw} (h : RwsAt w size a n cap rs) {i : Nat} (hi : i < rs.length) : ∃ b off, a = some ⟨b, off, none⟩ ∧ b < w.heap.size ∧
    w.cell? ⟨b, off + i, none⟩ = some (.slice (rs.getD i default).a (rs.getD i default).n (rs.getD i default).cap) := h.row.cell (by simp [List.getD_eq_getElem?_getD, List.getElem?_eq_getElem hi]; rfl)
theorem Rw.mem {rs : List Rw} {i : Nat} (h : i < rs.length) : rs.getD i default ∈ rs := by rw [List.getD_eq_getElem?_getD, List.getElem?_eq_getElem h]; exact List.getElem_mem _
def totR (rs : List Rw) : Nat := (rs.map (·.n)).sum
def celR (rs : List Rw) : List Value := rs.flatMap (·.vs)
theorem totR_succ {rs : List Rw} {k : Nat} (h : k < rs.length) : totR (rs.take (k + 1)) = totR (rs.take k) + (rs.getD k default).n := by
  rw [take_get h]; simp [totR]
theorem celR_succ {rs : List Rw} {k : Nat} (h : k < rs.length) : celR (rs.take (k + 1)) = celR (rs.take k) ++ (rs.getD k default).vs := by
  rw [take_get h]; simp [celR]
theorem totR_le {rs : List Rw} (h : ∀ r ∈ rs, r.n ≤ 1000000) : totR rs ≤ rs.length * 1000000 := by
  induction rs with
  | nil => simp [totR]
  | cons r rs ih =>
    have := ih fun x hx => h x (by simp [hx])
    have := h r (by simp)
    simp only [totR, List.map_cons, List.sum_cons, List.length_cons] at *
    omega
theorem elemF2 : Elem Tryz.prog 81 4 (.bool false) 1 1 := ⟨Tryz.underlying81, info_parts (by kernel_rfl), rfl, by decide⟩
theorem owns_room0 {w : World} {base : Nat} {e : TypeId} {size n : Nat} {a : Option Addr} {cap : Nat} {xs : List Value} (h : w.ownsRow base e size (.slice a n cap) n xs) : n ≤ cap := by
  obtain ⟨hl, ⟨hv, h0⟩ | ⟨g, cap', cur, hv, hb, hg, hc, _⟩⟩ := h
  · omega
  · simp at hv
    obtain ⟨rfl, rfl⟩ := hv
    exact hc
theorem growI (n : Nat) (w : World) (hn : n ≤ 1000000000) :
    Calls Tryz.prog 162 #[.slice none 0 0, .int .i64 n] w fun e w' => ∃ v, e = .returned v ∧ Below w.heap.size w w' ∧ w'.ownsRow w.heap.size 3 1 v 0 [] := by
  obtain ⟨i, hi, hz, hz1, hz2⟩ := elemI.info
  rcases Nat.eq_zero_or_pos n with h0 | h0
  · subst h0
    refine (Any8.slices_Grow_room Tryz.growIA none 0 0 0 w (by omega) (by omega) (by omega) (by omega)).mono ?_
    rintro e w' ⟨rfl, rfl⟩
    exact ⟨_, rfl, Below.refl _ _, World.ownsRow_nil _ _ _ _⟩
  · refine (Any8.slices_Grow_grow Tryz.growIA i _ hi hz (by rw [hz1]; omega) none 0 0 n [] w (by omega) (by omega) (by rw [hz2]; omega) (by omega) (by simp) (fun _ => rfl) (fun a h => by cases h)).mono ?_
    rintro e w' ⟨rfl, rfl⟩
    have hge := grownCap_ge w (0 + n) 0 (Tryz.growIA_ren.t 25)
    have hle := grownCap_le_maxLen w (0 + n) 0 (Tryz.growIA_ren.t 25) (by unfold maxLen; omega)
    refine ⟨_, rfl, ((Below.refl _ _).drew).alloc (by simp) _, ?_⟩
    refine ⟨by simp, .inr ⟨w.heap.size, _, _, rfl, Nat.le_refl _, World.alloc_heap_new w.drew _, Nat.zero_le _, hle, ?_, by simp⟩⟩
    have hzs := elemI.zs
    generalize grownCap w (0 + n) 0 (Tryz.growIA_ren.t 25) = G at *
    simp [Builtin.zeroCells, hzs]
    omega
theorem concatI (a : Option Addr) (n cap : Nat) (rs : List Rw) (w : World) (h : RwsAt w 1 a n cap rs) :
    Calls Tryz.prog 140 #[.slice a n cap] w (RowPost w 3 1 (totR rs) (celR rs)) := by
  obtain rfl := h.len
  have hsm := h.small
  have htb : ∀ k, totR (rs.take k) ≤ 1000000000 := fun k => by
    have := totR_le (rs := rs.take k) fun r hr => (h.each r (List.mem_of_mem_take hr)).few
    have : (rs.take k).length ≤ 1000 := by simp; omega
    omega
  have Htb := Lib.hid htb
  obtain ⟨Q, hQ⟩ : ∃ Q, RowPost w 3 1 (totR rs) (celR rs) = Q := ⟨_, rfl⟩
  rw [hQ]
  have HQ := Lib.hid hQ
  clear htb hQ
  go_enter Tryz.func140, Tryz.ntmps140
  go_wp2_with fail
  go_loopw [3, 11] (fun t i wr => ∃ k : Nat, k ≤ rs.length ∧ i = .int .i64 k ∧ t = .int .i64 (totR (rs.take k) : Nat) ∧ Below w.heap.size w wr) (fun _ i _ => rs.length - (RowKit.intOf i).toNat)
  case atStart => exact ⟨0, Nat.zero_le _, rfl, rfl, Below.refl _ _⟩
  case round =>
    obtain ⟨k, hk, rfl, rfl, hB⟩ := hrel
    have hnn : (0 : Int) ≤ k := by omega
    by_cases hlt : k < rs.length
    · have i1 : (k : Int) < (rs.length : Int) := by omega
      obtain ⟨b, o, rfl, _, d0⟩ := (h.below hB).get hlt
      have b1 := Htb.out k
      have b2 := Htb.out (k + 1)
      have Hs := Lib.hid (totR_succ hlt)
      rw [Hs.out] at b2
      generalize totR (rs.take k) = T at *
      generalize rs.getD k default = x at *
      have j1 : (0 : Int) ≤ (T : Int) := by omega
      have j2 : (0 : Int) ≤ (x.n : Int) := by omega
      have j3 : decide ((T : Int) + x.n < 0) = false := by simp; omega
      go_wp2_with fail
      go_roundw
      case rel => exact ⟨k + 1, by omega, by go_num, by rw [Hs.out]; go_num, hB⟩
      case measure => simp [RowKit.intOf]; omega
    · have hk2 : k = rs.length := by omega
      subst hk2
      have b1 := Htb.out rs.length
      rw [List.take_length] at *
      have hG := growI (totR rs) wr (by omega)
      clear b1
      go_wp2_with (go_at_call 162; (with_reducible refine hG.mono ?_); rintro e w1 ⟨v1, rfl, hb1, ho1⟩)
      have hB1 : Below w.heap.size w w1 := hB.ch2 hb1
      have ho1' := SL.row_base ho1 hB.size
      clear hG ho1 hb1
      go_loopw [6, 27] (fun o i wr => ∃ k : Nat, k ≤ rs.length ∧ i = .int .i64 k ∧ Below w.heap.size w wr ∧ wr.ownsRow w.heap.size 3 1 o (totR (rs.take k)) (celR (rs.take k))) (fun _ i _ => rs.length - (RowKit.intOf i).toNat)
      case atStart => exact ⟨0, Nat.zero_le _, rfl, hB1, ho1'⟩
      case round =>
        obtain ⟨k, hk, rfl, hB2, hown⟩ := hrel
        clear ho1'
        have hnn : (0 : Int) ≤ k := by omega
        by_cases hlt : k < rs.length
        · have i1 : (k : Int) < (rs.length : Int) := by omega
          obtain ⟨b, o, rfl, _, d0⟩ := (h.below hB2).get hlt
          have b2 := Htb.out (k + 1)
          have Hs := Lib.hid (totR_succ hlt)
          have Hc := Lib.hid (celR_succ hlt)
          rw [Hs.out] at b2
          obtain ⟨r1, r2, r3, r4⟩ := (h.below hB2).each _ (Rw.mem hlt)
          generalize totR (rs.take k) = T at *
          generalize celR (rs.take k) = U at *
          generalize rs.getD k default = x at *
          have B2 : Hid (T + x.n ≤ 1000000000) := Lib.hid b2
          have R2 := Lib.hid r2
          have R3 := Lib.hid r3
          have R4 := Lib.hid r4
          clear b2 r2 r3 r4
          rcases r1 with r1 | r1
          · go_wp2_with (at_builtin; refine wpList_app elemI rfl _ _ rfl hown rfl rfl r1 R2.out R3.out (by have := B2.out; unfold maxLen; omega) (by have := B2.out; omega) hB2.size ?_)
            intro v' w3 ho hg3 hb3 _ _
            go_wp2
            go_roundw
            case rel => exact ⟨k + 1, by omega, by go_num, hB2.trans hb3, by rw [Hs.out, Hc.out]; exact ho⟩
            case measure => simp [RowKit.intOf]; omega
          · obtain ⟨xa, xn, xc, xv⟩ := x
            simp only at r1
            subst r1
            have hv0 : xv = [] := List.eq_nil_of_length_eq_zero (by have := R2.out; simpa using this)
            subst hv0
            obtain ⟨oa, oc, rfl, _⟩ := owns_slice hown
            have hoc := Lib.hid (owns_room0 hown)
            go_wp2_with (at_builtin; refine wpList_app_zero elemI rfl _ _ rfl rfl hoc.out rfl ?_)
            go_wp2
            go_roundw
            case rel => exact ⟨k + 1, by omega, by go_num, hB2, by rw [Hs.out, Hc.out]; simpa using hown⟩
            case measure => simp [RowKit.intOf]; omega
        · have hk2 : k = rs.length := by omega
          subst hk2
          rw [List.take_length] at *
          go_wp2_with fail
          rw [← HQ.out]
          exact ⟨_, rfl, hB2, hown⟩
theorem growR (n : Nat) (w : World) (hn : n ≤ 1000000000) :
    Calls Tryz.prog 146 #[.slice none 0 0, .int .i64 n] w fun e w' => ∃ v, e = .returned v ∧ Below w.heap.size w w' ∧ w'.ownsRow w.heap.size 33 2 v 0 [] := by
  obtain ⟨i, hi, hz, hz1, hz2⟩ := elemR.info
  rcases Nat.eq_zero_or_pos n with h0 | h0
  · subst h0
    refine (Any8.slices_Grow_room Tryz.growRA none 0 0 0 w (by omega) (by omega) (by omega) (by omega)).mono ?_
    rintro e w' ⟨rfl, rfl⟩
    exact ⟨_, rfl, Below.refl _ _, World.ownsRow_nil _ _ _ _⟩
  · refine (Any8.slices_Grow_grow Tryz.growRA i _ hi hz (by rw [hz1]; omega) none 0 0 n [] w (by omega) (by omega) (by rw [hz2]; omega) (by omega) (by simp) (fun _ => rfl) (fun a h => by cases h)).mono ?_
    rintro e w' ⟨rfl, rfl⟩
    have hge := grownCap_ge w (0 + n) 0 (Tryz.growRA_ren.t 25)
    have hle := grownCap_le_maxLen w (0 + n) 0 (Tryz.growRA_ren.t 25) (by unfold maxLen; omega)
    refine ⟨_, rfl, ((Below.refl _ _).drew).alloc (by simp) _, ?_⟩
    refine ⟨by simp, .inr ⟨w.heap.size, _, _, rfl, Nat.le_refl _, World.alloc_heap_new w.drew _, Nat.zero_le _, hle, ?_, by simp⟩⟩
    have hzs := elemR.zs
    generalize grownCap w (0 + n) 0 (Tryz.growRA_ren.t 25) = G at *
    simp [Builtin.zeroCells, hzs]
    omega
theorem concatR (a : Option Addr) (n cap : Nat) (rs : List Rw) (w : World) (h : RwsAt w 2 a n cap rs) :
    Calls Tryz.prog 118 #[.slice a n cap] w (RowPost w 33 2 (totR rs) (celR rs)) := by
  obtain rfl := h.len
  have hsm := h.small
  have htb : ∀ k, totR (rs.take k) ≤ 1000000000 := fun k => by
    have := totR_le (rs := rs.take k) fun r hr => (h.each r (List.mem_of_mem_take hr)).few
    have : (rs.take k).length ≤ 1000 := by simp; omega
    omega
  have Htb := Lib.hid htb
  obtain ⟨Q, hQ⟩ : ∃ Q, RowPost w 33 2 (totR rs) (celR rs) = Q := ⟨_, rfl⟩
  rw [hQ]
  have HQ := Lib.hid hQ
  clear htb hQ
  go_enter Tryz.func118, Tryz.ntmps118
  go_wp2_with fail
  go_loopw [3, 11] (fun t i wr => ∃ k : Nat, k ≤ rs.length ∧ i = .int .i64 k ∧ t = .int .i64 (totR (rs.take k) : Nat) ∧ Below w.heap.size w wr) (fun _ i _ => rs.length - (RowKit.intOf i).toNat)
  case atStart => exact ⟨0, Nat.zero_le _, rfl, rfl, Below.refl _ _⟩
  case round =>
    obtain ⟨k, hk, rfl, rfl, hB⟩ := hrel
    have hnn : (0 : Int) ≤ k := by omega
    by_cases hlt : k < rs.length
    · have i1 : (k : Int) < (rs.length : Int) := by omega
      obtain ⟨b, o, rfl, _, d0⟩ := (h.below hB).get hlt
      have b1 := Htb.out k
      have b2 := Htb.out (k + 1)
      have Hs := Lib.hid (totR_succ hlt)
      rw [Hs.out] at b2
      generalize totR (rs.take k) = T at *
      generalize rs.getD k default = x at *
      have j1 : (0 : Int) ≤ (T : Int) := by omega
      have j2 : (0 : Int) ≤ (x.n : Int) := by omega
      have j3 : decide ((T : Int) + x.n < 0) = false := by simp; omega
      go_wp2_with fail
      go_roundw
      case rel => exact ⟨k + 1, by omega, by go_num, by rw [Hs.out]; go_num, hB⟩
      case measure => simp [RowKit.intOf]; omega
    · have hk2 : k = rs.length := by omega
      subst hk2
      have b1 := Htb.out rs.length
      rw [List.take_length] at *
      have hG := growR (totR rs) wr (by omega)
      clear b1
      go_wp2_with (go_at_call 146; (with_reducible refine hG.mono ?_); rintro e w1 ⟨v1, rfl, hb1, ho1⟩)
      have hB1 : Below w.heap.size w w1 := hB.ch2 hb1
      have ho1' := SL.row_base ho1 hB.size
      clear hG ho1 hb1
      go_loopw [6, 27] (fun o i wr => ∃ k : Nat, k ≤ rs.length ∧ i = .int .i64 k ∧ Below w.heap.size w wr ∧ wr.ownsRow w.heap.size 33 2 o (totR (rs.take k)) (celR (rs.take k))) (fun _ i _ => rs.length - (RowKit.intOf i).toNat)
      case atStart => exact ⟨0, Nat.zero_le _, rfl, hB1, ho1'⟩
      case round =>
        obtain ⟨k, hk, rfl, hB2, hown⟩ := hrel
        clear ho1'
        have hnn : (0 : Int) ≤ k := by omega
        by_cases hlt : k < rs.length
        · have i1 : (k : Int) < (rs.length : Int) := by omega
          obtain ⟨b, o, rfl, _, d0⟩ := (h.below hB2).get hlt
          have b2 := Htb.out (k + 1)
          have Hs := Lib.hid (totR_succ hlt)
          have Hc := Lib.hid (celR_succ hlt)
          rw [Hs.out] at b2
          obtain ⟨r1, r2, r3, r4⟩ := (h.below hB2).each _ (Rw.mem hlt)
          generalize totR (rs.take k) = T at *
          generalize celR (rs.take k) = U at *
          generalize rs.getD k default = x at *
          have B2 : Hid (T + x.n ≤ 1000000000) := Lib.hid b2
          have R2 := Lib.hid r2
          have R3 := Lib.hid r3
          have R4 := Lib.hid r4
          clear b2 r2 r3 r4
          rcases r1 with r1 | r1
          · go_wp2_with (at_builtin; refine wpList_app elemR rfl _ _ rfl hown rfl rfl r1 R2.out R3.out (by have := B2.out; unfold maxLen; omega) (by have := B2.out; omega) hB2.size ?_)
            intro v' w3 ho hg3 hb3 _ _
            go_wp2
            go_roundw
            case rel => exact ⟨k + 1, by omega, by go_num, hB2.trans hb3, by rw [Hs.out, Hc.out]; exact ho⟩
            case measure => simp [RowKit.intOf]; omega
          · obtain ⟨xa, xn, xc, xv⟩ := x
            simp only at r1
            subst r1
            have hv0 : xv = [] := List.eq_nil_of_length_eq_zero (by have := R2.out; simpa using this)
            subst hv0
            obtain ⟨oa, oc, rfl, _⟩ := owns_slice hown
            have hoc := Lib.hid (owns_room0 hown)
            go_wp2_with (at_builtin; refine wpList_app_zero elemR rfl _ _ rfl rfl hoc.out rfl ?_)
            go_wp2
            go_roundw
            case rel => exact ⟨k + 1, by omega, by go_num, hB2, by rw [Hs.out, Hc.out]; simpa using hown⟩
            case measure => simp [RowKit.intOf]; omega
        · have hk2 : k = rs.length := by omega
          subst hk2
          rw [List.take_length] at *
          go_wp2_with fail
          rw [← HQ.out]
          exact ⟨_, rfl, hB2, hown⟩
theorem growF (n : Nat) (w : World) (hn : n ≤ 1000000000) :
    Calls Tryz.prog 147 #[.slice none 0 0, .int .i64 n] w fun e w' => ∃ v, e = .returned v ∧ Below w.heap.size w w' ∧ w'.ownsRow w.heap.size 4 1 v 0 [] := by
  obtain ⟨i, hi, hz, hz1, hz2⟩ := elemF2.info
  rcases Nat.eq_zero_or_pos n with h0 | h0
  · subst h0
    refine (Any8.slices_Grow_room Tryz.growFA none 0 0 0 w (by omega) (by omega) (by omega) (by omega)).mono ?_
    rintro e w' ⟨rfl, rfl⟩
    exact ⟨_, rfl, Below.refl _ _, World.ownsRow_nil _ _ _ _⟩
  · refine (Any8.slices_Grow_grow Tryz.growFA i _ hi hz (by rw [hz1]; omega) none 0 0 n [] w (by omega) (by omega) (by rw [hz2]; omega) (by omega) (by simp) (fun _ => rfl) (fun a h => by cases h)).mono ?_
    rintro e w' ⟨rfl, rfl⟩
    have hge := grownCap_ge w (0 + n) 0 (Tryz.growFA_ren.t 25)
    have hle := grownCap_le_maxLen w (0 + n) 0 (Tryz.growFA_ren.t 25) (by unfold maxLen; omega)
    refine ⟨_, rfl, ((Below.refl _ _).drew).alloc (by simp) _, ?_⟩
    refine ⟨by simp, .inr ⟨w.heap.size, _, _, rfl, Nat.le_refl _, World.alloc_heap_new w.drew _, Nat.zero_le _, hle, ?_, by simp⟩⟩
    have hzs := elemF2.zs
    generalize grownCap w (0 + n) 0 (Tryz.growFA_ren.t 25) = G at *
    simp [Builtin.zeroCells, hzs]
    omega
theorem concatF (a : Option Addr) (n cap : Nat) (rs : List Rw) (w : World) (h : RwsAt w 1 a n cap rs) :
    Calls Tryz.prog 119 #[.slice a n cap] w (RowPost w 4 1 (totR rs) (celR rs)) := by
  obtain rfl := h.len
  have hsm := h.small
  have htb : ∀ k, totR (rs.take k) ≤ 1000000000 := fun k => by
    have := totR_le (rs := rs.take k) fun r hr => (h.each r (List.mem_of_mem_take hr)).few
    have : (rs.take k).length ≤ 1000 := by simp; omega
    omega
  have Htb := Lib.hid htb
  obtain ⟨Q, hQ⟩ : ∃ Q, RowPost w 4 1 (totR rs) (celR rs) = Q := ⟨_, rfl⟩
  rw [hQ]
  have HQ := Lib.hid hQ
  clear htb hQ
  go_enter Tryz.func119, Tryz.ntmps119
  go_wp2_with fail
  go_loopw [3, 11] (fun t i wr => ∃ k : Nat, k ≤ rs.length ∧ i = .int .i64 k ∧ t = .int .i64 (totR (rs.take k) : Nat) ∧ Below w.heap.size w wr) (fun _ i _ => rs.length - (RowKit.intOf i).toNat)
  case atStart => exact ⟨0, Nat.zero_le _, rfl, rfl, Below.refl _ _⟩
  case round =>
    obtain ⟨k, hk, rfl, rfl, hB⟩ := hrel
    have hnn : (0 : Int) ≤ k := by omega
    by_cases hlt : k < rs.length
    · have i1 : (k : Int) < (rs.length : Int) := by omega
      obtain ⟨b, o, rfl, _, d0⟩ := (h.below hB).get hlt
      have b1 := Htb.out k
      have b2 := Htb.out (k + 1)
      have Hs := Lib.hid (totR_succ hlt)
      rw [Hs.out] at b2
      generalize totR (rs.take k) = T at *
      generalize rs.getD k default = x at *
      have j1 : (0 : Int) ≤ (T : Int) := by omega
      have j2 : (0 : Int) ≤ (x.n : Int) := by omega
      have j3 : decide ((T : Int) + x.n < 0) = false := by simp; omega
      go_wp2_with fail
      go_roundw
      case rel => exact ⟨k + 1, by omega, by go_num, by rw [Hs.out]; go_num, hB⟩
      case measure => simp [RowKit.intOf]; omega
    · have hk2 : k = rs.length := by omega
      subst hk2
      have b1 := Htb.out rs.length
      rw [List.take_length] at *
      have hG := growF (totR rs) wr (by omega)
      clear b1
      go_wp2_with (go_at_call 147; (with_reducible refine hG.mono ?_); rintro e w1 ⟨v1, rfl, hb1, ho1⟩)
      have hB1 : Below w.heap.size w w1 := hB.ch2 hb1
      have ho1' := SL.row_base ho1 hB.size
      clear hG ho1 hb1
      go_loopw [6, 27] (fun o i wr => ∃ k : Nat, k ≤ rs.length ∧ i = .int .i64 k ∧ Below w.heap.size w wr ∧ wr.ownsRow w.heap.size 4 1 o (totR (rs.take k)) (celR (rs.take k))) (fun _ i _ => rs.length - (RowKit.intOf i).toNat)
      case atStart => exact ⟨0, Nat.zero_le _, rfl, hB1, ho1'⟩
      case round =>
        obtain ⟨k, hk, rfl, hB2, hown⟩ := hrel
        clear ho1'
        have hnn : (0 : Int) ≤ k := by omega
        by_cases hlt : k < rs.length
        · have i1 : (k : Int) < (rs.length : Int) := by omega
          obtain ⟨b, o, rfl, _, d0⟩ := (h.below hB2).get hlt
          have b2 := Htb.out (k + 1)
          have Hs := Lib.hid (totR_succ hlt)
          have Hc := Lib.hid (celR_succ hlt)
          rw [Hs.out] at b2
          obtain ⟨r1, r2, r3, r4⟩ := (h.below hB2).each _ (Rw.mem hlt)
          generalize totR (rs.take k) = T at *
          generalize celR (rs.take k) = U at *
          generalize rs.getD k default = x at *
          have B2 : Hid (T + x.n ≤ 1000000000) := Lib.hid b2
          have R2 := Lib.hid r2
          have R3 := Lib.hid r3
          have R4 := Lib.hid r4
          clear b2 r2 r3 r4
          rcases r1 with r1 | r1
          · go_wp2_with (at_builtin; refine wpList_app elemF2 rfl _ _ rfl hown rfl rfl r1 R2.out R3.out (by have := B2.out; unfold maxLen; omega) (by have := B2.out; omega) hB2.size ?_)
            intro v' w3 ho hg3 hb3 _ _
            go_wp2
            go_roundw
            case rel => exact ⟨k + 1, by omega, by go_num, hB2.trans hb3, by rw [Hs.out, Hc.out]; exact ho⟩
            case measure => simp [RowKit.intOf]; omega
          · obtain ⟨xa, xn, xc, xv⟩ := x
            simp only at r1
            subst r1
            have hv0 : xv = [] := List.eq_nil_of_length_eq_zero (by have := R2.out; simpa using this)
            subst hv0
            obtain ⟨oa, oc, rfl, _⟩ := owns_slice hown
            have hoc := Lib.hid (owns_room0 hown)
            go_wp2_with (at_builtin; refine wpList_app_zero elemF2 rfl _ _ rfl rfl hoc.out rfl ?_)
            go_wp2
            go_roundw
            case rel => exact ⟨k + 1, by omega, by go_num, hB2, by rw [Hs.out, Hc.out]; simpa using hown⟩
            case measure => simp [RowKit.intOf]; omega
        · have hk2 : k = rs.length := by omega
          subst hk2
          rw [List.take_length] at *
          go_wp2_with fail
          rw [← HQ.out]
          exact ⟨_, rfl, hB2, hown⟩

/-- Lists of ints as slices with cells. -/
def Ls.rw (x : Ls) : Rw := ⟨x.a, x.l.length, x.cap, x.l.map (.int .i64)⟩
theorem totR_ls (xs : List Ls) : totR (xs.map Ls.rw) = (xs.flatMap (·.l)).length := by
  induction xs with
  | nil => rfl
  | cons x xs ih =>
    have h : (Ls.rw x).n = x.l.length := rfl
    simp only [totR, List.map_cons, List.sum_cons, List.flatMap_cons, List.length_append, h] at *
    omega
theorem celR_ls (xs : List Ls) : celR (xs.map Ls.rw) = (xs.flatMap (·.l)).map (.int .i64) := by
  induction xs with
  | nil => rfl
  | cons x xs ih =>
    have h : (Ls.rw x).vs = x.l.map (.int .i64) := rfl
    simp only [celR, List.map_cons, List.flatMap_cons, List.map_append, h] at *
    rw [ih]
/-- A slice of lists of parts. -/
structure LsgAt (w : World) (a : Option Addr) (n cap : Nat) (xs : List Ls) : Prop where
  len : n = xs.length
  small : xs.length ≤ 140737488351232
  row : RowAt w a cap (xs.map Ls.v)
  each : ∀ x ∈ xs, LAt w x.a x.l.length x.cap x.l
theorem LsgAt.rws {w : World} {a : Option Addr} {n cap : Nat} {xs : List Ls} (h : LsgAt w a n cap xs) (h1 : xs.length ≤ 1000) (h2 : ∀ x ∈ xs, x.l.length ≤ 1000000) : RwsAt w 1 a n cap (xs.map Ls.rw) := by
  refine ⟨by rw [h.len]; simp, by simpa using h1, ?_, fun r hr => ?_⟩
  · have e : (xs.map Ls.rw).map Rw.v = xs.map Ls.v := by rw [List.map_map]; rfl
    rw [e]; exact h.row
  · obtain ⟨x, hx, rfl⟩ := List.mem_map.1 hr
    refine ⟨?_, by simp [Ls.rw], ones_int _, h2 x hx⟩
    rcases h.each x hx with h | ⟨h, _, _⟩
    · exact .inl h.row
    · exact .inr (by simp [Ls.rw, h])
theorem wsorted (a : Option Addr) (n cap : Nat) (xs : List Ls) (w : World) (h : LsgAt w a n cap xs) (h1 : xs.length ≤ 10) (h2 : ∀ x ∈ xs, x.l.length ≤ 1000) :
    Calls Tryz.prog 109 #[.slice a n cap] w (RowPost w 3 1 (ascOf (xs.flatMap (·.l))).length ((ascOf (xs.flatMap (·.l))).map (.int .i64))) := by
  have hC := concatI a n cap _ w (h.rws (by omega) (fun x hx => by have := h2 x hx; omega))
  have hl : (xs.flatMap (·.l)).length ≤ 10000 := by
    have h4 := totR_ls xs
    have h5 : totR (xs.map Ls.rw) ≤ 10 * 1000 := by
      have : ∀ (ys : List Ls), (∀ x ∈ ys, x.l.length ≤ 1000) → totR (ys.map Ls.rw) ≤ ys.length * 1000 := by
        intro ys
        induction ys with
        | nil => intro _; simp [totR]
        | cons y ys ih =>
          intro hy
          have a1 := ih fun x hx => hy x (by simp [hx])
          have a2 := hy y (by simp)
          have e : (Ls.rw y).n = y.l.length := rfl
          simp only [totR, List.map_cons, List.sum_cons, List.length_cons, e] at *
          omega
      have := this xs h2
      have : xs.length * 1000 ≤ 10 * 1000 := Nat.mul_le_mul_right _ h1
      omega
    omega
  rw [totR_ls, celR_ls] at hC
  have Hs := Lib.hid (compact_sorted (xs.flatMap (·.l)))
  have hsl := sort_len (xs.flatMap (·.l))
  obtain ⟨Q, hQ⟩ : ∃ Q, RowPost w 3 1 (ascOf (xs.flatMap (·.l))).length ((ascOf (xs.flatMap (·.l))).map (.int .i64)) = Q := ⟨_, rfl⟩
  rw [hQ]
  have HQ := Lib.hid hQ
  clear hQ
  generalize xs.flatMap (·.l) = L at *
  have HL := Lib.hid hl
  have HSL := Lib.hid hsl
  clear hl hsl
  go_enter Tryz.func109, Tryz.ntmps109
  go_wp2_with (first
    | (go_at_call 140; (with_reducible refine hC.mono ?_); rintro e w1 ⟨v1, rfl, hb1, ho1⟩)
    | (go_at_call 130; (with_reducible refine (sortI _ _ _ _ _ ho1 (by have := HL.out; omega)).mono ?_); rintro e w2 ⟨rfl, ho2, hg2⟩; rw [← HSL.out] at ho2)
    | (go_at_call 141; (with_reducible refine (compactI _ _ _ _ _ ho2 (by have := HL.out; rw [HSL.out]; omega)).mono ?_); rintro e w3 ⟨v3, rfl, ho3, hg3, _⟩))
  rw [← HQ.out]
  rw [Hs.out] at ho3
  have b1 := SL.row_bounds ho1
  exact ⟨v3, rfl, (hb1.ch2 (Below.refl _ _)).trans ((hg2.trans hg3).belowW hb1.size fun k hk => (b1 k hk).1), ho3⟩
end Go.Proofs.YtodkbfbbpfghiaaGreat
namespace Go.Proofs.YtodkbfbbpfghiaaGreat
open Go.RowKit Go.Shelf Go.Lib
set_option maxHeartbeats 4000000
set_option maxRecDepth 100000
theorem flat_set {α : Type} [Inhabited α] {f : α → List Value} {K : Nat} (hk : ∀ x, (f x).length = K) {y : α} {v : Value} {j : Nat} (hj : j < K) : ∀ (l : List α) (i : Nat), i < l.length → f y = (f (l.getD i default)).set j v → (l.set i y).flatMap f = (l.flatMap f).set (i * K + j) v
  | [], i, h, _ => by simp at h
  | x :: l, 0, _, hy => by
    have hy' : f y = (f x).set j v := hy
    rw [List.set_cons_zero, List.flatMap_cons, List.flatMap_cons, List.set_append_left _ _ (by rw [hk]; omega), Nat.zero_mul, Nat.zero_add, hy']
  | x :: l, i + 1, h, hy => by
    have ih := flat_set hk hj l i (by simpa using h) hy
    rw [List.set_cons_succ, List.flatMap_cons, List.flatMap_cons, ih, List.set_append_right _ _ (by rw [hk, Nat.succ_mul]; omega), hk]
    congr 2
    rw [Nat.succ_mul]; omega
theorem getD_setP {ps : List Pt} {i j : Nat} {q : Pt} (hi : i < ps.length) : (ps.set i q).getD j default = if i = j then q else ps.getD j default := by
  rw [List.getD_eq_getElem?_getD, List.getElem?_set]
  by_cases e : i = j
  · subst e; simp [hi]
  · simp [e]
/-- A part whose lists lie elsewhere. -/
def Pt.at (p : Pt) (sa : Option Addr) (sc : Nat) (ra : Option Addr) (rc : Nat) : Pt := { p with sa := sa, sc := sc, ra := ra, rc := rc }
theorem pcs_at {ps : List Pt} {k : Nat} (hk : k < ps.length) (sa : Option Addr) (sc : Nat) (ra : Option Addr) (rc : Nat) :
    pcs (ps.set k ((ps.getD k default).at sa sc ra rc)) = ((pcs ps).set (k * 8) (.slice sa (ps.getD k default).sh.length sc)).set (k * 8 + 7) (.slice ra (ps.getD k default).re.length rc) := by
  have h1 := flat_set (f := Pt.cs) (K := 8) (fun _ => rfl) (j := 0) (by omega) ps k hk (y := { (ps.getD k default) with sa := sa, sc := sc }) (v := .slice sa (ps.getD k default).sh.length sc) rfl
  have h2 := flat_set (f := Pt.cs) (K := 8) (fun _ => rfl) (j := 7) (by omega) (ps.set k { (ps.getD k default) with sa := sa, sc := sc }) k (by simpa using hk) (y := (ps.getD k default).at sa sc ra rc) (v := .slice ra (ps.getD k default).re.length rc) (by rw [getD_setP hk, if_pos rfl]; rfl)
  rw [List.set_set] at h2
  unfold pcs
  rw [h2, h1, Nat.add_zero]
theorem owns_some {w : World} {base : Nat} {e : TypeId} {size n : Nat} {a : Option Addr} {cap : Nat} {xs : List Value} (h : w.ownsRow base e size (.slice a n cap) n xs) (hn : 0 < n) : ∃ g, a = some ⟨g, 0, none⟩ ∧ base ≤ g ∧ g < w.heap.size ∧ n ≤ cap := by
  obtain ⟨hl, ⟨hv, h0⟩ | ⟨g, cap', cur, hv, hb, hg, hc, _⟩⟩ := h
  · omega
  · simp at hv
    obtain ⟨rfl, rfl⟩ := hv
    exact ⟨g, rfl, hb, (Array.getElem?_eq_some_iff.1 hg).1, hc⟩
theorem IntsAt.chg {w w' : World} {a : Option Addr} {n cap : Nat} {xs : List Int} {E : List Nat} (h : IntsAt w a n cap xs) (hc : SL.Chg E w w') (hE : ∀ x, a = some x → x.block ∉ E) : IntsAt w' a n cap xs := ⟨h.len, h.small, h.row.chg hc hE⟩
theorem LAt.chg {w w' : World} {a : Option Addr} {n cap : Nat} {xs : List Int} {E : List Nat} (h : LAt w a n cap xs) (hc : SL.Chg E w w') (hE : ∀ x, a = some x → xs ≠ [] → x.block ∉ E) : LAt w' a n cap xs := by
  rcases h with h | h
  · by_cases e : xs = []
    · subst e
      exact .inl ⟨h.len, h.small, h.row.nil, fun x hx => ⟨(h.row.at_ x hx).1, Nat.lt_of_lt_of_le (h.row.at_ x hx).2.1 hc.size, fun i u hi => by simp at hi⟩⟩
    · exact .inl (h.chg hc fun x hx => hE x hx e)
  · exact .inr h
theorem PtAt.chg {w w' : World} {p : Pt} {E : List Nat} (h : PtAt w p) (hc : SL.Chg E w w') (h1 : ∀ x, p.sa = some x → p.sh ≠ [] → x.block ∉ E) (h2 : ∀ x, p.ra = some x → p.re ≠ [] → x.block ∉ E) : PtAt w' p := ⟨h.sh.chg hc h1, h.re.chg hc h2⟩
/-- Where a part's lists do not lie. -/
def Pt.off (p : Pt) (E : List Nat) : Prop := (∀ x, p.sa = some x → p.sh ≠ [] → x.block ∉ E) ∧ ∀ x, p.ra = some x → p.re ≠ [] → x.block ∉ E
/-- Whose lists lie from a block on. -/
def Pt.from (p : Pt) (b : Nat) : Prop := (∀ x, p.sa = some x → p.sh ≠ [] → b ≤ x.block) ∧ ∀ x, p.ra = some x → p.re ≠ [] → b ≤ x.block
/-- Parts copied so far, those up to k. -/
structure CopyRel (E : List Nat) (base : Nat) (ps qs : List Pt) (v : Value) (k : Nat) (w : World) : Prop where
  len : qs.length = ps.length
  row : w.ownsRow base 49 8 v ps.length (pcs qs)
  same : ∀ i, i < ps.length → SameP (qs.getD i default) (ps.getD i default)
  at_ : ∀ q ∈ qs, PtAt w q
  off : ∀ q ∈ qs, q.off (v.ownBlock.toList ++ E)
  nw : ∀ i, i < k → (qs.getD i default).from base
structure CopyAt (w : World) (base : Nat) (c d : Cs) : Prop where
  same : SameC d c
  row : w.ownsRow base 49 8 (.slice d.a d.ps.length d.cap) d.ps.length (pcs d.ps)
  at_ : CsAt w d
  off : ∀ q ∈ d.ps, q.off (Value.slice d.a d.ps.length d.cap).ownBlock.toList
  nw : ∀ q ∈ d.ps, q.from base
def CopiedPost (w : World) (c : Cs) (e : Ending) (w' : World) : Prop := ∃ d, e = .returned (Cs.v d) ∧ Below w.heap.size w w' ∧ CopyAt w' w.heap.size c d
theorem PtAt.blocks {w : World} {p : Pt} (h : PtAt w p) : (∀ x, p.sa = some x → p.sh ≠ [] → x.block < w.heap.size) ∧ ∀ x, p.ra = some x → p.re ≠ [] → x.block < w.heap.size := ⟨fun x hx hn => ((h.sh.ints hn).row.at_ x hx).2.1, fun x hx hn => ((h.re.ints hn).row.at_ x hx).2.1⟩
theorem CopyRel.step {E : List Nat} {base : Nat} {ps qs : List Pt} {G cap : Nat} {w w' : World} {k : Nat} {sa : Option Addr} {sc : Nat} {ra : Option Addr} {rc : Nat} (h : CopyRel E base ps qs (.slice (some ⟨G, 0, none⟩) ps.length cap) k w) (hk : k < ps.length) (hc : SL.Chg [G] w w')
    (hrow : w'.ownsRow base 49 8 (.slice (some ⟨G, 0, none⟩) ps.length cap) ps.length (((pcs qs).set (k * 8) (.slice sa (qs.getD k default).sh.length sc)).set (k * 8 + 7) (.slice ra (qs.getD k default).re.length rc)))
    (h1 : LAt w' sa (qs.getD k default).sh.length sc (qs.getD k default).sh) (h2 : LAt w' ra (qs.getD k default).re.length rc (qs.getD k default).re) (n1 : ∀ x, sa = some x → x.block ≠ G ∧ x.block ∉ E) (n2 : ∀ x, ra = some x → x.block ≠ G ∧ x.block ∉ E) (m1 : ∀ x, sa = some x → base ≤ x.block) (m2 : ∀ x, ra = some x → base ≤ x.block) :
    CopyRel E base ps (qs.set k ((qs.getD k default).at sa sc ra rc)) (.slice (some ⟨G, 0, none⟩) ps.length cap) (k + 1) w' := by
  have hkq : k < qs.length := by rw [h.len]; exact hk
  refine ⟨by simp [h.len], by rw [pcs_at hkq]; exact hrow, fun i hi => ?_, fun q hq => ?_, fun q hq => ?_, fun i hi => ?_⟩
  · rw [getD_setP hkq]
    split
    · rename_i e
      subst e
      have := h.same _ hk
      exact ⟨this.sh, this.re, this.lo, this.hi, this.lob, this.hib, this.ft, this.fby⟩
    · exact h.same i hi
  · rcases List.mem_or_eq_of_mem_set hq with hq | rfl
    · exact (h.at_ q hq).chg hc (fun x hx hn hm => (h.off q hq).1 x hx hn (List.mem_append.2 (.inl (by simpa [Value.ownBlock] using hm)))) (fun x hx hn hm => (h.off q hq).2 x hx hn (List.mem_append.2 (.inl (by simpa [Value.ownBlock] using hm))))
    · exact ⟨h1, h2⟩
  · rcases List.mem_or_eq_of_mem_set hq with hq | rfl
    · exact h.off q hq
    · exact ⟨fun x hx _ hm => by
        rcases List.mem_append.1 hm with hm | hm
        · exact (n1 x hx).1 (by simpa [Value.ownBlock] using hm)
        · exact (n1 x hx).2 hm, fun x hx _ hm => by
        rcases List.mem_append.1 hm with hm | hm
        · exact (n2 x hx).1 (by simpa [Value.ownBlock] using hm)
        · exact (n2 x hx).2 hm⟩
  · rw [getD_setP hkq]
    split
    · exact ⟨fun x hx _ => m1 x hx, fun x hx _ => m2 x hx⟩
    · exact h.nw i (by omega)
theorem CopyAt.chg {w w' : World} {base : Nat} {c d : Cs} {E : List Nat} (h : CopyAt w base c d) (hc : SL.Chg E w w') (hE : ∀ k ∈ E, k < base) : CopyAt w' base c d := by
  have hr : w'.ownsRow base 49 8 (.slice d.a d.ps.length d.cap) d.ps.length (pcs d.ps) := SL.row_stab h.row fun k hk => hc.block k (SL.row_bounds h.row k hk).2 fun hm => by have := (SL.row_bounds h.row k hk).1; have := hE k hm; omega
  have hq : ∀ q ∈ d.ps, PtAt w' q := fun q hq => (h.at_.ps.each q hq).chg hc (fun x hx hn hm => by have := (h.nw q hq).1 x hx hn; have := hE _ hm; omega) (fun x hx hn hm => by have := (h.nw q hq).2 x hx hn; have := hE _ hm; omega)
  exact ⟨h.same, hr, ⟨h.at_.ware, rfl, h.at_.ps.small, RowAt.of_owns hr, hq⟩, h.off, h.nw⟩
theorem CopyAt.below {w w' : World} {base : Nat} {c d : Cs} (h : CopyAt w base c d) (hb : Below w.heap.size w w') : CopyAt w' base c d := h.chg (E := []) (.of_below hb) (by simp)
theorem CopyAt.base {w : World} {base base' : Nat} {c d : Cs} (h : CopyAt w base c d) (hb : base' ≤ base) : CopyAt w base' c d :=
  ⟨h.same, SL.row_base h.row hb, h.at_, h.off, fun q hq => ⟨fun x hx hn => Nat.le_trans hb ((h.nw q hq).1 x hx hn), fun x hx hn => Nat.le_trans hb ((h.nw q hq).2 x hx hn)⟩⟩
end Go.Proofs.YtodkbfbbpfghiaaGreat
