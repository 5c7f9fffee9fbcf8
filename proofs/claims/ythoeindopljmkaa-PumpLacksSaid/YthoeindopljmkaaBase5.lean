/- Words and contracts for a claim. -/
import Derived.Test.YthoeindopljmkaaBase4
import Derived.Shelf.SortM.Plain
import Derived.Shelf.SortM.SortNone
import Derived.Ground.SlgmProg
import Derived.Shelf.SlGeneric
section
namespace Go.Proofs
open Go.Shelf
def Try.mInts_ren : Go.Shelf.Ren := ⟨fun | 5 => 97 | 8 => 104 | 7 => 103 | 19 => 115 | 20 => 116 | 10 => 106 | 11 => 107 | 12 => 108 | 13 => 109 | 14 => 110 | 15 => 111 | 16 => 112 | 17 => 113 | 18 => 114 | 30 => 117 | 31 => 118 | 32 => 119 | 33 => 120 | 34 => 121 | 35 => 122 | 40 => 123 | n => n, fun | 23 => 30 | 25 => 3 | 3 => 3 | 32 => 131 | 22 => 30 | 0 => 0 | 44 => 139 | 46 => 142 | 4 => 4 | 36 => 155 | 35 => 154 | 41 => 160 | 5 => 5 | 9 => 9 | 53 => 164 | 57 => 168 | 63 => 170 | 64 => 129 | n => n, fun | n => n⟩
theorem Try.mInts : Go.Proofs.SlLaysM.n5 Try.prog Try.mInts_ren := {
 mixed := by kernel_rfl
 f5 := ⟨Try.f97.name, by decide, Try.func97.trans (congrArg some (by kernel_rfl))⟩
 f7 := ⟨Try.f103.name, by decide, Try.func103.trans (congrArg some (by kernel_rfl))⟩
 f8 := Try.func104.trans (congrArg some (by kernel_rfl))
 f10 := ⟨Try.f106.name, by decide, Try.func106.trans (congrArg some (by kernel_rfl))⟩
 f11 := ⟨Try.f107.name, by decide, Try.func107.trans (congrArg some (by kernel_rfl))⟩
 f12 := ⟨Try.f108.name, by decide, Try.func108.trans (congrArg some (by kernel_rfl))⟩
 f13 := ⟨Try.f109.name, by decide, Try.func109.trans (congrArg some (by kernel_rfl))⟩
 f14 := ⟨Try.f110.name, by decide, Try.func110.trans (congrArg some (by kernel_rfl))⟩
 f15 := ⟨Try.f111.name, by decide, Try.func111.trans (congrArg some (by kernel_rfl))⟩
 f16 := ⟨Try.f112.name, by decide, Try.func112.trans (congrArg some (by kernel_rfl))⟩
 f17 := ⟨Try.f113.name, by decide, Try.func113.trans (congrArg some (by kernel_rfl))⟩
 f18 := ⟨Try.f114.name, by decide, Try.func114.trans (congrArg some (by kernel_rfl))⟩
 f19 := Try.func115.trans (congrArg some (by kernel_rfl))
 f20 := Try.func116.trans (congrArg some (by kernel_rfl))
 f30 := ⟨Try.f117.name, by decide, Try.func117.trans (congrArg some (by kernel_rfl))⟩
 f31 := Try.func118.trans (congrArg some (by kernel_rfl))
 f32 := Try.func119.trans (congrArg some (by kernel_rfl))
 f33 := ⟨Try.f120.name, by decide, Try.func120.trans (congrArg some (by kernel_rfl))⟩
 f34 := ⟨Try.f121.name, by decide, Try.func121.trans (congrArg some (by kernel_rfl))⟩
 f35 := ⟨Try.f122.name, by decide, Try.func122.trans (congrArg some (by kernel_rfl))⟩
 f40 := ⟨Try.f123.name, by decide, Try.func123.trans (congrArg some (by kernel_rfl))⟩
 t0 := Try.underlying0
 a0 := Try.isAgg0
 z0 := Try.sizeOf0
 v0 := Try.zeroValue0
 t3 := Try.underlying3
 a3 := Try.isAgg3
 z3 := Try.sizeOf3
 v3 := Try.zeroValue3
 t4 := Try.underlying4
 a4 := Try.isAgg4
 z4 := Try.sizeOf4
 v4 := Try.zeroValue4
 t5 := Try.underlying5
 a5 := Try.isAgg5
 z5 := Try.sizeOf5
 v5 := Try.zeroValue5
 t9 := Try.underlying9
 a9 := Try.isAgg9
 z9 := Try.sizeOf9
 v9 := Try.zeroValue9
 t22 := Try.underlying30
 a22 := Try.isAgg30
 z22 := Try.sizeOf30
 v22 := Try.zeroValue30
 t23 := Try.underlying30
 a23 := Try.isAgg30
 z23 := Try.sizeOf30
 v23 := Try.zeroValue30
 t25 := Try.underlying3
 a25 := Try.isAgg3
 z25 := Try.sizeOf3
 v25 := Try.zeroValue3
 t32 := Try.underlying131
 a32 := Try.isAgg131
 z32 := Try.sizeOf131
 v32 := Try.zeroValue131
 t35 := Try.underlying154
 a35 := Try.isAgg154
 z35 := Try.sizeOf154
 v35 := Try.zeroValue154
 t36 := Try.underlying155
 a36 := Try.isAgg155
 z36 := Try.sizeOf155
 v36 := Try.zeroValue155
 t41 := Try.underlying160
 a41 := Try.isAgg160
 z41 := Try.sizeOf160
 v41 := Try.zeroValue160
 t44 := Try.underlying139
 a44 := Try.isAgg139
 z44 := Try.sizeOf139
 v44 := Try.zeroValue139
 t46 := Try.underlying142
 a46 := Try.isAgg142
 z46 := Try.sizeOf142
 v46 := Try.zeroValue142
 t53 := Try.underlying164
 a53 := Try.isAgg164
 z53 := Try.sizeOf164
 v53 := Try.zeroValue164
 t57 := Try.underlying168
 a57 := Try.isAgg168
 z57 := Try.sizeOf168
 v57 := Try.zeroValue168
 t63 := Try.underlying170
 a63 := Try.isAgg170
 z63 := Try.sizeOf170
 v63 := Try.zeroValue170
 t64 := Try.underlying129
 a64 := Try.isAgg129
 z64 := Try.sizeOf129
 v64 := Try.zeroValue129 }
end Go.Proofs
end
