/-
  DERIVED: THE SHELF's CONTRACTS AT THIS DUMP, IN PLAIN WORDS (tools/lay-plain.mjs out of 'TryShelf.lean', which tools/lay-shelf.mjs wrote): THE SAME DECLARATIONS UNDER THE SAME NAMES: 'import', 'namespace', 'open', 'def', 'theorem' AND NOTHING ELSE: no command of the shelf's: FOR A HAND-IN. Each laying: the table of numbers ('.._ren') and one theorem, a field a fact of the dump's own or the kernel's comparison; each contract: ONE APPLICATION.
-/
import Derived.Shelf.Small.Bits
import Derived.Shelf.Strconv.Itoa0
import Derived.Ground.GgsProg
import Derived.Shelf.GgSortFunc.Insertion
import Derived.Shelf.GgSortFunc.Small
import Derived.Shelf.GgSortFunc.InsertionK
import Derived.Shelf.GgSortFunc.SmallK
import Derived.Shelf.GgSortFunc.Tiny
import Derived.Shelf.GgSortFunc.Compose
import Derived.Shelf.GgSortFunc.LotD
import Derived.Shelf.GgSortFunc.Pivot
import Derived.Shelf.GgSortFunc.Partition
import Derived.Shelf.GgSortFunc.Pdq
import Derived.Shelf.GgSortFunc.Whole
import Derived.Shelf.SlSortFunc.Xorshift
import Derived.Shelf.SlSortFuncK.ComposeK
import Derived.Shelf.SlSortFuncK.SiftDownK
import Derived.Shelf.SlSortFuncK.HeapSortK
import Derived.Shelf.SlSortFuncK.PartialInsertionK
import Derived.Shelf.SlSortFuncK.LotDK
import Derived.Shelf.SlSortFuncK.PivotK
import Derived.Shelf.SlSortFuncK.PartitionK
import Derived.Shelf.SlSortFunc.SiftDown
import Derived.Shelf.SlSortFunc.HeapSort
import Derived.Shelf.SlSortFunc.PartialInsertion
import Derived.Shelf.SlSortFuncK.PdqK
import Derived.Shelf.SlSortFuncK.WholeK
import Derived.Test.YteelmhmdnljjnaaProg
namespace Go.Proofs
open Go.Shelf
def Try.laysGg6_ren : Go.Shelf.Ren := ⟨fun | 6 => 66 | 10 => 68 | 11 => 69 | 12 => 70 | 13 => 71 | 14 => 72 | 24 => 82 | 25 => 83 | 26 => 84 | 27 => 85 | 28 => 86 | 29 => 87 | 30 => 88 | 31 => 89 | 32 => 90 | 33 => 91 | 34 => 92 | 35 => 93 | 36 => 94 | 37 => 95 | 38 => 96 | 39 => 97 | n => n, fun | 20 => 20 | 26 => 56 | 35 => 60 | 0 => 0 | 37 => 62 | 3 => 3 | 41 => 53 | 44 => 68 | 49 => 73 | 51 => 75 | 4 => 4 | 54 => 78 | 53 => 77 | 58 => 82 | 5 => 5 | 9 => 9 | 60 => 84 | 64 => 88 | 66 => 90 | 67 => 39 | 17 => 17 | 32 => 57 | 33 => 58 | 82 => 105 | 12 => 12 | 75 => 98 | 76 => 99 | 77 => 100 | 78 => 101 | 79 => 102 | 80 => 103 | n => n, fun | n => n⟩
theorem Try.laysGg6 : Go.Proofs.LaysGg.n6 Try.prog Try.laysGg6_ren := {
  mixed := by kernel_rfl
  f6 := Try.func66.trans (congrArg some (by kernel_rfl))
  f10 := Try.func68.trans (congrArg some (by kernel_rfl))
  f11 := Try.func69.trans (congrArg some (by kernel_rfl))
  f12 := Try.func70.trans (congrArg some (by kernel_rfl))
  f13 := Try.func71.trans (congrArg some (by kernel_rfl))
  f14 := Try.func72.trans (congrArg some (by kernel_rfl))
  f24 := Try.func82.trans (congrArg some (by kernel_rfl))
  f25 := Try.func83.trans (congrArg some (by kernel_rfl))
  f26 := Try.func84.trans (congrArg some (by kernel_rfl))
  f27 := Try.func85.trans (congrArg some (by kernel_rfl))
  f28 := Try.func86.trans (congrArg some (by kernel_rfl))
  f29 := Try.func87.trans (congrArg some (by kernel_rfl))
  f30 := Try.func88.trans (congrArg some (by kernel_rfl))
  f31 := Try.func89.trans (congrArg some (by kernel_rfl))
  f32 := Try.func90.trans (congrArg some (by kernel_rfl))
  f33 := Try.func91.trans (congrArg some (by kernel_rfl))
  f34 := Try.func92.trans (congrArg some (by kernel_rfl))
  f35 := Try.func93.trans (congrArg some (by kernel_rfl))
  f36 := Try.func94.trans (congrArg some (by kernel_rfl))
  f37 := Try.func95.trans (congrArg some (by kernel_rfl))
  f38 := Try.func96.trans (congrArg some (by kernel_rfl))
  f39 := Try.func97.trans (congrArg some (by kernel_rfl))
  t0 := Try.underlying0
  a0 := Try.isAgg0
  z0 := Try.sizeOf0
  v0 := Try.zeroValue0
  i0 := by kernel_rfl
  t3 := Try.underlying3
  a3 := Try.isAgg3
  z3 := Try.sizeOf3
  v3 := Try.zeroValue3
  i3 := by kernel_rfl
  t4 := Try.underlying4
  a4 := Try.isAgg4
  z4 := Try.sizeOf4
  v4 := Try.zeroValue4
  i4 := by kernel_rfl
  t5 := Try.underlying5
  a5 := Try.isAgg5
  z5 := Try.sizeOf5
  v5 := Try.zeroValue5
  i5 := by kernel_rfl
  t9 := Try.underlying9
  a9 := Try.isAgg9
  z9 := Try.sizeOf9
  v9 := Try.zeroValue9
  i9 := by kernel_rfl
  t12 := Try.underlying12
  a12 := Try.isAgg12
  z12 := Try.sizeOf12
  v12 := Try.zeroValue12
  i12 := by kernel_rfl
  t17 := Try.underlying17
  a17 := Try.isAgg17
  z17 := Try.sizeOf17
  v17 := Try.zeroValue17
  i17 := by kernel_rfl
  t20 := Try.underlying20
  a20 := Try.isAgg20
  z20 := Try.sizeOf20
  v20 := Try.zeroValue20
  i20 := by kernel_rfl
  t26 := Try.underlying56
  a26 := Try.isAgg56
  z26 := Try.sizeOf56
  v26 := Try.zeroValue56
  i26 := by kernel_rfl
  t32 := Try.underlying57
  a32 := Try.isAgg57
  z32 := Try.sizeOf57
  v32 := Try.zeroValue57
  i32 := by kernel_rfl
  t33 := Try.underlying58
  a33 := Try.isAgg58
  z33 := Try.sizeOf58
  v33 := Try.zeroValue58
  i33 := by kernel_rfl
  t35 := Try.underlying60
  a35 := Try.isAgg60
  z35 := Try.sizeOf60
  v35 := Try.zeroValue60
  i35 := by kernel_rfl
  t37 := Try.underlying62
  a37 := Try.isAgg62
  z37 := Try.sizeOf62
  v37 := Try.zeroValue62
  i37 := by kernel_rfl
  t41 := Try.underlying53
  a41 := Try.isAgg53
  z41 := Try.sizeOf53
  v41 := Try.zeroValue53
  i41 := by kernel_rfl
  t44 := Try.underlying68
  a44 := Try.isAgg68
  z44 := Try.sizeOf68
  v44 := Try.zeroValue68
  i44 := by kernel_rfl
  t49 := Try.underlying73
  a49 := Try.isAgg73
  z49 := Try.sizeOf73
  v49 := Try.zeroValue73
  i49 := by kernel_rfl
  t51 := Try.underlying75
  a51 := Try.isAgg75
  z51 := Try.sizeOf75
  v51 := Try.zeroValue75
  i51 := by kernel_rfl
  t53 := Try.underlying77
  a53 := Try.isAgg77
  z53 := Try.sizeOf77
  v53 := Try.zeroValue77
  i53 := by kernel_rfl
  t54 := Try.underlying78
  a54 := Try.isAgg78
  z54 := Try.sizeOf78
  v54 := Try.zeroValue78
  i54 := by kernel_rfl
  t58 := Try.underlying82
  a58 := Try.isAgg82
  z58 := Try.sizeOf82
  v58 := Try.zeroValue82
  i58 := by kernel_rfl
  t60 := Try.underlying84
  a60 := Try.isAgg84
  z60 := Try.sizeOf84
  v60 := Try.zeroValue84
  i60 := by kernel_rfl
  t64 := Try.underlying88
  a64 := Try.isAgg88
  z64 := Try.sizeOf88
  v64 := Try.zeroValue88
  i64 := by kernel_rfl
  t66 := Try.underlying90
  a66 := Try.isAgg90
  z66 := Try.sizeOf90
  v66 := Try.zeroValue90
  i66 := by kernel_rfl
  t67 := Try.underlying39
  a67 := Try.isAgg39
  z67 := Try.sizeOf39
  v67 := Try.zeroValue39
  i67 := by kernel_rfl
  t75 := Try.underlying98
  a75 := Try.isAgg98
  z75 := Try.sizeOf98
  v75 := Try.zeroValue98
  i75 := by kernel_rfl
  t76 := Try.underlying99
  a76 := Try.isAgg99
  z76 := Try.sizeOf99
  v76 := Try.zeroValue99
  i76 := by kernel_rfl
  t77 := Try.underlying100
  a77 := Try.isAgg100
  z77 := Try.sizeOf100
  v77 := Try.zeroValue100
  i77 := by kernel_rfl
  t78 := Try.underlying101
  a78 := Try.isAgg101
  z78 := Try.sizeOf101
  v78 := Try.zeroValue101
  i78 := by kernel_rfl
  t79 := Try.underlying102
  a79 := Try.isAgg102
  z79 := Try.sizeOf102
  v79 := Try.zeroValue102
  i79 := by kernel_rfl
  t80 := Try.underlying103
  a80 := Try.isAgg103
  z80 := Try.sizeOf103
  v80 := Try.zeroValue103
  i80 := by kernel_rfl
  t82 := Try.underlying105
  a82 := Try.isAgg105
  z82 := Try.sizeOf105
  v82 := Try.zeroValue105
  i82 := by kernel_rfl }
end Go.Proofs
