/-
  DERIVED: THE SHELF's CONTRACTS AT THIS DUMP, IN PLAIN WORDS (tools/lay-plain.mjs out of 'YtffhcdfikmpacaaGreatDoorIter.lean', which tools/lay-shelf.mjs wrote): THE SAME DECLARATIONS UNDER THE SAME NAMES: 'import', 'namespace', 'open', 'def', 'theorem' AND NOTHING ELSE: no command of the shelf's: FOR A HAND-IN. Each laying: the table of numbers ('.._ren') and one theorem, a field a fact of the dump's own or the kernel's comparison; each contract: ONE APPLICATION.
-/
import Derived.Shelf.SlIter.Nil
import Derived.Shelf.SortM.Plain
import Derived.Shelf.SortM.SortNone
import Derived.Ground.GgzProg
import Derived.Ground.SlgmProg
import Derived.Test.YtffhcdfikmpacaaGreatDoorProg
namespace Go.Proofs
open Go.Shelf
def Tryz.keys123_ren : Go.Shelf.Ren := ⟨fun | 7 => 123 | 10 => 199 | n => n, fun | 23 => 116 | 26 => 9 | 3 => 174 | 28 => 180 | 0 => 0 | 27 => 179 | 33 => 98 | 4 => 4 | n => n, fun | n => n⟩
theorem Tryz.keys123 : Go.Proofs.SlLaysZ.n7 Tryz.prog Tryz.keys123_ren := {
  mixed := by kernel_rfl
  f7 := ⟨Tryz.f123.name, by decide, Tryz.func123.trans (congrArg some (by kernel_rfl))⟩
  f10 := ⟨Tryz.f199.name, by decide, Tryz.func199.trans (congrArg some (by kernel_rfl))⟩
  t0 := Tryz.underlying0
  a0 := Tryz.isAgg0
  z0 := Tryz.sizeOf0
  v0 := Tryz.zeroValue0
  t4 := Tryz.underlying4
  a4 := Tryz.isAgg4
  z4 := Tryz.sizeOf4
  v4 := Tryz.zeroValue4
  t23 := Tryz.underlying116
  a23 := Tryz.isAgg116
  z23 := Tryz.sizeOf116
  v23 := Tryz.zeroValue116
  t26 := Tryz.underlying9
  a26 := Tryz.isAgg9
  z26 := Tryz.sizeOf9
  v26 := Tryz.zeroValue9
  t27 := Tryz.underlying179
  a27 := Tryz.isAgg179
  z27 := Tryz.sizeOf179
  v27 := Tryz.zeroValue179
  t28 := Tryz.underlying180
  a28 := Tryz.isAgg180
  z28 := Tryz.sizeOf180
  v28 := Tryz.zeroValue180
  t33 := Tryz.underlying98
  a33 := Tryz.isAgg98
  z33 := Tryz.sizeOf98
  v33 := Tryz.zeroValue98 }
def Tryz.sorted122_ren : Go.Shelf.Ren := ⟨fun | 6 => 122 | 8 => 197 | 9 => 198 | 11 => 250 | 13 => 235 | 12 => 251 | 23 => 295 | 24 => 296 | 14 => 298 | 15 => 299 | 16 => 300 | 17 => 301 | 18 => 302 | 19 => 303 | 20 => 304 | 21 => 305 | 22 => 306 | 25 => 351 | 26 => 347 | 27 => 348 | 28 => 352 | 29 => 353 | 30 => 354 | 31 => 381 | n => n, fun | 26 => 9 | 28 => 180 | 24 => 81 | 0 => 0 | 3 => 3 | 37 => 192 | 48 => 244 | 50 => 253 | 4 => 4 | 40 => 356 | 39 => 355 | 45 => 360 | 5 => 5 | 9 => 9 | 51 => 404 | 55 => 408 | 57 => 429 | 58 => 337 | 33 => 98 | n => n, fun | n => n⟩
theorem Tryz.sorted122 : Go.Proofs.SlLaysZ.n6 Tryz.prog Tryz.sorted122_ren := {
  mixed := by kernel_rfl
  f6 := ⟨Tryz.f122.name, by decide, Tryz.func122.trans (congrArg some (by kernel_rfl))⟩
  f8 := ⟨Tryz.f197.name, by decide, Tryz.func197.trans (congrArg some (by kernel_rfl))⟩
  f11 := ⟨Tryz.f250.name, by decide, Tryz.func250.trans (congrArg some (by kernel_rfl))⟩
  t0 := Tryz.underlying0
  a0 := Tryz.isAgg0
  z0 := Tryz.sizeOf0
  v0 := Tryz.zeroValue0
  t24 := Tryz.underlying81
  a24 := Tryz.isAgg81
  z24 := Tryz.sizeOf81
  v24 := Tryz.zeroValue81
  t26 := Tryz.underlying9
  a26 := Tryz.isAgg9
  z26 := Tryz.sizeOf9
  v26 := Tryz.zeroValue9
  t28 := Tryz.underlying180
  a28 := Tryz.isAgg180
  z28 := Tryz.sizeOf180
  v28 := Tryz.zeroValue180
  i26 := by kernel_rfl }
def Tryz.sort198_ren : Go.Shelf.Ren := ⟨fun | 6 => 198 | 8 => 235 | 9 => 251 | 19 => 295 | 20 => 296 | 21 => 298 | 22 => 299 | 23 => 300 | 24 => 301 | 25 => 302 | 26 => 303 | 27 => 304 | 28 => 305 | 29 => 306 | 36 => 351 | 31 => 347 | 32 => 348 | 37 => 352 | 38 => 353 | 39 => 354 | 41 => 381 | n => n, fun | 27 => 81 | 29 => 9 | 3 => 3 | 32 => 192 | 26 => 81 | 0 => 0 | 44 => 244 | 46 => 253 | 4 => 4 | 36 => 356 | 35 => 355 | 41 => 360 | 5 => 5 | 9 => 9 | 53 => 404 | 57 => 408 | 63 => 429 | 64 => 337 | n => n, fun | n => n⟩
theorem Tryz.sort198 : Go.Proofs.SlLaysM.n6 Tryz.prog Tryz.sort198_ren := {
  mixed := by kernel_rfl
  f6 := ⟨Tryz.f198.name, by decide, Tryz.func198.trans (congrArg some (by kernel_rfl))⟩
  f8 := Tryz.func235.trans (congrArg some (by kernel_rfl))
  f9 := ⟨Tryz.f251.name, by decide, Tryz.func251.trans (congrArg some (by kernel_rfl))⟩
  f19 := Tryz.func295.trans (congrArg some (by kernel_rfl))
  f20 := Tryz.func296.trans (congrArg some (by kernel_rfl))
  f21 := ⟨Tryz.f298.name, by decide, Tryz.func298.trans (congrArg some (by kernel_rfl))⟩
  f22 := ⟨Tryz.f299.name, by decide, Tryz.func299.trans (congrArg some (by kernel_rfl))⟩
  f23 := ⟨Tryz.f300.name, by decide, Tryz.func300.trans (congrArg some (by kernel_rfl))⟩
  f24 := ⟨Tryz.f301.name, by decide, Tryz.func301.trans (congrArg some (by kernel_rfl))⟩
  f25 := ⟨Tryz.f302.name, by decide, Tryz.func302.trans (congrArg some (by kernel_rfl))⟩
  f26 := ⟨Tryz.f303.name, by decide, Tryz.func303.trans (congrArg some (by kernel_rfl))⟩
  f27 := ⟨Tryz.f304.name, by decide, Tryz.func304.trans (congrArg some (by kernel_rfl))⟩
  f28 := ⟨Tryz.f305.name, by decide, Tryz.func305.trans (congrArg some (by kernel_rfl))⟩
  f29 := ⟨Tryz.f306.name, by decide, Tryz.func306.trans (congrArg some (by kernel_rfl))⟩
  f31 := Tryz.func347.trans (congrArg some (by kernel_rfl))
  f32 := Tryz.func348.trans (congrArg some (by kernel_rfl))
  f36 := ⟨Tryz.f351.name, by decide, Tryz.func351.trans (congrArg some (by kernel_rfl))⟩
  f37 := ⟨Tryz.f352.name, by decide, Tryz.func352.trans (congrArg some (by kernel_rfl))⟩
  f38 := ⟨Tryz.f353.name, by decide, Tryz.func353.trans (congrArg some (by kernel_rfl))⟩
  f39 := ⟨Tryz.f354.name, by decide, Tryz.func354.trans (congrArg some (by kernel_rfl))⟩
  f41 := ⟨Tryz.f381.name, by decide, Tryz.func381.trans (congrArg some (by kernel_rfl))⟩
  t0 := Tryz.underlying0
  a0 := Tryz.isAgg0
  z0 := Tryz.sizeOf0
  v0 := Tryz.zeroValue0
  t3 := Tryz.underlying3
  a3 := Tryz.isAgg3
  z3 := Tryz.sizeOf3
  v3 := Tryz.zeroValue3
  t4 := Tryz.underlying4
  a4 := Tryz.isAgg4
  z4 := Tryz.sizeOf4
  v4 := Tryz.zeroValue4
  t5 := Tryz.underlying5
  a5 := Tryz.isAgg5
  z5 := Tryz.sizeOf5
  v5 := Tryz.zeroValue5
  t9 := Tryz.underlying9
  a9 := Tryz.isAgg9
  z9 := Tryz.sizeOf9
  v9 := Tryz.zeroValue9
  t26 := Tryz.underlying81
  a26 := Tryz.isAgg81
  z26 := Tryz.sizeOf81
  v26 := Tryz.zeroValue81
  t27 := Tryz.underlying81
  a27 := Tryz.isAgg81
  z27 := Tryz.sizeOf81
  v27 := Tryz.zeroValue81
  t29 := Tryz.underlying9
  a29 := Tryz.isAgg9
  z29 := Tryz.sizeOf9
  v29 := Tryz.zeroValue9
  t32 := Tryz.underlying192
  a32 := Tryz.isAgg192
  z32 := Tryz.sizeOf192
  v32 := Tryz.zeroValue192
  t35 := Tryz.underlying355
  a35 := Tryz.isAgg355
  z35 := Tryz.sizeOf355
  v35 := Tryz.zeroValue355
  t36 := Tryz.underlying356
  a36 := Tryz.isAgg356
  z36 := Tryz.sizeOf356
  v36 := Tryz.zeroValue356
  t41 := Tryz.underlying360
  a41 := Tryz.isAgg360
  z41 := Tryz.sizeOf360
  v41 := Tryz.zeroValue360
  t44 := Tryz.underlying244
  a44 := Tryz.isAgg244
  z44 := Tryz.sizeOf244
  v44 := Tryz.zeroValue244
  t46 := Tryz.underlying253
  a46 := Tryz.isAgg253
  z46 := Tryz.sizeOf253
  v46 := Tryz.zeroValue253
  t53 := Tryz.underlying404
  a53 := Tryz.isAgg404
  z53 := Tryz.sizeOf404
  v53 := Tryz.zeroValue404
  t57 := Tryz.underlying408
  a57 := Tryz.isAgg408
  z57 := Tryz.sizeOf408
  v57 := Tryz.zeroValue408
  t63 := Tryz.underlying429
  a63 := Tryz.isAgg429
  z63 := Tryz.sizeOf429
  v63 := Tryz.zeroValue429
  t64 := Tryz.underlying337
  a64 := Tryz.isAgg337
  z64 := Tryz.sizeOf337
  v64 := Tryz.zeroValue337 }
open Go.RowKit Go.Maps Go.Sort in
theorem Tryz.sorts122 (m : Nat) : AnyZ.SortsIn Tryz.prog Tryz.sorted122_ren Fence.wide m :=
  ⟨fun blk off cap ss W hH hblk hsz => callsIn_wide.2 (AnyM.slices_Sort_string Tryz.sort198 blk off cap ss W hH hblk hsz),
   fun p cap W => callsIn_wide.2 (AnyM.slices_Sort_string_none Tryz.sort198 p cap W)⟩
end Go.Proofs
