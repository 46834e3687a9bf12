/- Contracts of functions of Go's library, laid at this program. -/
import Derived.Shelf.Sort.Plain
import Derived.Shelf.Slices.Delete
import Derived.Shelf.Slices.In.SortNone
import Derived.Shelf.Slices.Empties
import Derived.Test.YtpagpmioopaciaaProg
namespace Go.Proofs
open Go.Shelf
def Try.lays190_ren : Go.Shelf.Ren := ⟨fun | 190 => 91 | 125 => 117 | 258 => 116 | 128 => 151 | 129 => 152 | 302 => 142 | 303 => 143 | 304 => 144 | 305 => 145 | 306 => 146 | 307 => 147 | 308 => 148 | 309 => 149 | 310 => 150 | 333 => 160 | 329 => 161 | 330 => 162 | 334 => 163 | 335 => 164 | 336 => 165 | 344 => 169 | n => n, fun | 31 => 62 | 9 => 9 | 3 => 3 | 46 => 89 | 0 => 0 | 51 => 37 | 53 => 149 | 4 => 4 | 183 => 246 | 182 => 245 | 131 => 251 | 5 => 5 | 218 => 267 | 222 => 271 | 228 => 277 | 229 => 278 | n => n, fun | n => n⟩
theorem Try.lays190 : Go.Proofs.Lays.n190 Try.prog Try.lays190_ren := {
  mixed := by kernel_rfl
  f125 := Try.func117.trans (congrArg some (by kernel_rfl))
  f128 := Try.func151.trans (congrArg some (by kernel_rfl))
  f129 := Try.func152.trans (congrArg some (by kernel_rfl))
  f190 := Try.func91.trans (congrArg some (by kernel_rfl))
  f258 := Try.func116.trans (congrArg some (by kernel_rfl))
  f302 := Try.func142.trans (congrArg some (by kernel_rfl))
  f303 := Try.func143.trans (congrArg some (by kernel_rfl))
  f304 := Try.func144.trans (congrArg some (by kernel_rfl))
  f305 := Try.func145.trans (congrArg some (by kernel_rfl))
  f306 := Try.func146.trans (congrArg some (by kernel_rfl))
  f307 := Try.func147.trans (congrArg some (by kernel_rfl))
  f308 := Try.func148.trans (congrArg some (by kernel_rfl))
  f309 := Try.func149.trans (congrArg some (by kernel_rfl))
  f310 := Try.func150.trans (congrArg some (by kernel_rfl))
  f329 := Try.func161.trans (congrArg some (by kernel_rfl))
  f330 := Try.func162.trans (congrArg some (by kernel_rfl))
  f333 := Try.func160.trans (congrArg some (by kernel_rfl))
  f334 := Try.func163.trans (congrArg some (by kernel_rfl))
  f335 := Try.func164.trans (congrArg some (by kernel_rfl))
  f336 := Try.func165.trans (congrArg some (by kernel_rfl))
  f344 := Try.func169.trans (congrArg some (by kernel_rfl))
  t0 := Try.underlying0
  a0 := Try.isAgg0
  z0 := Try.sizeOf0
  v0 := Try.zeroValue0
  t3 := Try.underlying3
  a3 := Try.isAgg3
  z3 := Try.sizeOf3
  v3 := Try.zeroValue3
  t4 := Try.underlying4
  a4 := Try.isAgg4
  z4 := Try.sizeOf4
  v4 := Try.zeroValue4
  t5 := Try.underlying5
  a5 := Try.isAgg5
  z5 := Try.sizeOf5
  v5 := Try.zeroValue5
  t9 := Try.underlying9
  a9 := Try.isAgg9
  z9 := Try.sizeOf9
  v9 := Try.zeroValue9
  t31 := Try.underlying62
  a31 := Try.isAgg62
  z31 := Try.sizeOf62
  v31 := Try.zeroValue62
  t46 := Try.underlying89
  a46 := Try.isAgg89
  z46 := Try.sizeOf89
  v46 := Try.zeroValue89
  t51 := Try.underlying37
  a51 := Try.isAgg37
  z51 := Try.sizeOf37
  v51 := Try.zeroValue37
  t53 := Try.underlying149
  a53 := Try.isAgg149
  z53 := Try.sizeOf149
  v53 := Try.zeroValue149
  t131 := Try.underlying251
  a131 := Try.isAgg251
  z131 := Try.sizeOf251
  v131 := Try.zeroValue251
  t182 := Try.underlying245
  a182 := Try.isAgg245
  z182 := Try.sizeOf245
  v182 := Try.zeroValue245
  t183 := Try.underlying246
  a183 := Try.isAgg246
  z183 := Try.sizeOf246
  v183 := Try.zeroValue246
  t218 := Try.underlying267
  a218 := Try.isAgg267
  z218 := Try.sizeOf267
  v218 := Try.zeroValue267
  t222 := Try.underlying271
  a222 := Try.isAgg271
  z222 := Try.sizeOf271
  v222 := Try.zeroValue271
  t228 := Try.underlying277
  a228 := Try.isAgg277
  z228 := Try.sizeOf277
  v228 := Try.zeroValue277
  t229 := Try.underlying278
  a229 := Try.isAgg278
  z229 := Try.sizeOf278
  v229 := Try.zeroValue278 }
open Go.Sort Go.RowKit in
theorem Try.slices_Sort_string (blk off cap : Nat) (ss : List (List UInt8)) (w : World) (hH : Holds encStr w blk off ss.toArray) (hblk : blk < w.heap.size) (hsz : ss.length < 4611686018427387904) :
    Calls Try.prog 91 #[.slice (some ⟨blk, off, none⟩) ss.length cap] w fun e w' =>
      e = .returned (.tuple #[]) ∧ ∃ n os, w' = grow (putRow encStr (Sort.ahead w n) blk off (ss.mergeSort fun x y => decide (x ≤ y)).toArray) os := Any.slices_Sort_string Try.lays190 blk off cap ss w hH hblk hsz
def Try.laysNm224_ren : Go.Shelf.Ren := ⟨fun | 24 => 87 | n => n, fun | 24 => 62 | 9 => 9 | 3 => 3 | 4 => 4 | 0 => 0 | n => n, fun | n => n⟩
theorem Try.laysNm224 : Go.Proofs.Lays2.n24 Try.prog Try.laysNm224_ren := {
  mixed := by kernel_rfl
  f24 := Try.func87.trans (congrArg some (by kernel_rfl))
  t0 := Try.underlying0
  a0 := Try.isAgg0
  z0 := Try.sizeOf0
  v0 := Try.zeroValue0
  t3 := Try.underlying3
  a3 := Try.isAgg3
  z3 := Try.sizeOf3
  v3 := Try.zeroValue3
  t4 := Try.underlying4
  a4 := Try.isAgg4
  z4 := Try.sizeOf4
  v4 := Try.zeroValue4
  t9 := Try.underlying9
  a9 := Try.isAgg9
  z9 := Try.sizeOf9
  v9 := Try.zeroValue9
  t24 := Try.underlying62
  a24 := Try.isAgg62
  z24 := Try.sizeOf62
  v24 := Try.zeroValue62
  i9 := by kernel_rfl }
open Go.RowKit Go.Lib Go.Sort in
theorem Try.slices_Delete_string (blk off cap i j : Nat) (zs : List (List UInt8)) (w : World) (hH : Holds encStr w blk off zs.toArray) (hcap : zs.length ≤ cap) (hm : cap ≤ 9223372036854775807) (hij : i ≤ j) (hj : j ≤ zs.length) :
    Calls Try.prog 87 #[.slice (some ⟨blk, off, none⟩) zs.length cap, .int .i64 i, .int .i64 j] w fun e w' => e = .returned (.slice (some ⟨blk, off, none⟩) (zs.length - (j - i)) cap) ∧ ∃ q, w' = putRow encStr (Sort.ahead w q) blk off (zs.take i ++ zs.drop j ++ List.replicate (j - i) []).toArray := Any.slices_Delete_string Try.laysNm224 blk off cap i j zs w hH hcap hm hij hj
open Go.RowKit Go.Sort in
theorem Try.slices_Sort_string_none (p : Option Addr) (cap : Nat) (w : World) :
    Calls Try.prog 91 #[.slice p 0 cap] w fun e w' => e = .returned (.tuple #[]) ∧ w' = w := Any.slices_Sort_string_none Try.lays190 p cap w
end Go.Proofs
