/- Contracts of Go's library at this program, laid by the kit's own tool (the shelf), in plain words. Conditions: those that each states. -/
import Derived.Shelf.Small.Bits
import Derived.Shelf.Small.Wraps
import Derived.Shelf.Strconv.Itoa0
import Derived.Shelf.Sort.Plain
import Derived.Shelf.Slices.Turned
import Derived.Shelf.Slices.Clone
import Derived.Shelf.Slices.SearchI
import Derived.Shelf.Slices.In.SortNone
import Derived.Shelf.SlicesE.Clone
import Derived.Test.YthibchaiaedboaaBase
namespace Go.Proofs.Ythibchaiaedboaa
open Go.Shelf
def lays189_ren : Go.Shelf.Ren := ⟨fun | 189 => 159 | 125 => 201 | 257 => 200 | 128 => 231 | 129 => 232 | 294 => 222 | 295 => 223 | 296 => 224 | 297 => 225 | 298 => 226 | 299 => 227 | 216 => 228 | 300 => 229 | 301 => 230 | 328 => 242 | 329 => 243 | 330 => 244 | 331 => 245 | 332 => 246 | 215 => 239 | 343 => 248 | n => n, fun | 28 => 49 | 3 => 3 | 46 => 198 | 0 => 0 | 51 => 217 | 53 => 126 | 4 => 4 | 183 => 211 | 182 => 210 | 131 => 43 | 5 => 5 | 9 => 9 | 218 => 224 | 222 => 228 | 228 => 230 | 229 => 130 | n => n, fun | n => n⟩
theorem lays189 : Go.Proofs.Lays.n189 Try.prog lays189_ren := {
  mixed := by kernel_rfl
  f125 := Try.func201.trans (congrArg some (by kernel_rfl))
  f128 := Try.func231.trans (congrArg some (by kernel_rfl))
  f129 := Try.func232.trans (congrArg some (by kernel_rfl))
  f189 := Try.func159.trans (congrArg some (by kernel_rfl))
  f215 := Try.func239.trans (congrArg some (by kernel_rfl))
  f216 := Try.func228.trans (congrArg some (by kernel_rfl))
  f257 := Try.func200.trans (congrArg some (by kernel_rfl))
  f294 := Try.func222.trans (congrArg some (by kernel_rfl))
  f295 := Try.func223.trans (congrArg some (by kernel_rfl))
  f296 := Try.func224.trans (congrArg some (by kernel_rfl))
  f297 := Try.func225.trans (congrArg some (by kernel_rfl))
  f298 := Try.func226.trans (congrArg some (by kernel_rfl))
  f299 := Try.func227.trans (congrArg some (by kernel_rfl))
  f300 := Try.func229.trans (congrArg some (by kernel_rfl))
  f301 := Try.func230.trans (congrArg some (by kernel_rfl))
  f328 := Try.func242.trans (congrArg some (by kernel_rfl))
  f329 := Try.func243.trans (congrArg some (by kernel_rfl))
  f330 := Try.func244.trans (congrArg some (by kernel_rfl))
  f331 := Try.func245.trans (congrArg some (by kernel_rfl))
  f332 := Try.func246.trans (congrArg some (by kernel_rfl))
  f343 := Try.func248.trans (congrArg some (by kernel_rfl))
  t0 := Try.underlying0
  a0 := Try.isAgg0
  z0 := Try.sizeOf0
  v0 := Try.zeroValue0
  t3 := Try.underlying3
  a3 := Try.isAgg3
  z3 := Try.sizeOf3
  v3 := Try.zeroValue3
  t4 := Try.underlying4
  a4 := Try.isAgg4
  z4 := Try.sizeOf4
  v4 := Try.zeroValue4
  t5 := Try.underlying5
  a5 := Try.isAgg5
  z5 := Try.sizeOf5
  v5 := Try.zeroValue5
  t9 := Try.underlying9
  a9 := Try.isAgg9
  z9 := Try.sizeOf9
  v9 := Try.zeroValue9
  t28 := Try.underlying49
  a28 := Try.isAgg49
  z28 := Try.sizeOf49
  v28 := Try.zeroValue49
  t46 := Try.underlying198
  a46 := Try.isAgg198
  z46 := Try.sizeOf198
  v46 := Try.zeroValue198
  t51 := Try.underlying217
  a51 := Try.isAgg217
  z51 := Try.sizeOf217
  v51 := Try.zeroValue217
  t53 := Try.underlying126
  a53 := Try.isAgg126
  z53 := Try.sizeOf126
  v53 := Try.zeroValue126
  t131 := Try.underlying43
  a131 := Try.isAgg43
  z131 := Try.sizeOf43
  v131 := Try.zeroValue43
  t182 := Try.underlying210
  a182 := Try.isAgg210
  z182 := Try.sizeOf210
  v182 := Try.zeroValue210
  t183 := Try.underlying211
  a183 := Try.isAgg211
  z183 := Try.sizeOf211
  v183 := Try.zeroValue211
  t218 := Try.underlying224
  a218 := Try.isAgg224
  z218 := Try.sizeOf224
  v218 := Try.zeroValue224
  t222 := Try.underlying228
  a222 := Try.isAgg228
  z222 := Try.sizeOf228
  v222 := Try.zeroValue228
  t228 := Try.underlying230
  a228 := Try.isAgg230
  z228 := Try.sizeOf230
  v228 := Try.zeroValue230
  t229 := Try.underlying130
  a229 := Try.isAgg130
  z229 := Try.sizeOf130
  v229 := Try.zeroValue130 }
open Go.Sort Go.RowKit in
theorem slices_Sort_int (blk off cap : Nat) (zs : List Int) (w : World) (hH : Holds (Value.int .i64) w blk off zs.toArray) (hblk : blk < w.heap.size) (hsz : zs.length < 4611686018427387904) :
    Calls Try.prog 159 #[.slice (some ⟨blk, off, none⟩) zs.length cap] w fun e w' =>
      e = .returned (.tuple #[]) ∧ ∃ n os, w' = grow (putRow (Value.int .i64) (Sort.ahead w n) blk off (zs.mergeSort fun x y => decide (x ≤ y)).toArray) os := Any.slices_Sort_int lays189 blk off cap zs w hH hblk hsz
open Go.RowKit Go.Sort in
theorem slices_Sort_int_none (p : Option Addr) (cap : Nat) (w : World) :
    Calls Try.prog 159 #[.slice p 0 cap] w fun e w' => e = .returned (.tuple #[]) ∧ w' = w := Any.slices_Sort_int_none lays189 p cap w
end Go.Proofs.Ythibchaiaedboaa
