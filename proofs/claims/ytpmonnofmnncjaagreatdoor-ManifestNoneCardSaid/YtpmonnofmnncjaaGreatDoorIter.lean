/-
  DERIVED: THE SHELF's CONTRACTS AT THIS DUMP, IN PLAIN WORDS (tools/lay-plain.mjs out of 'YtpmonnofmnncjaaGreatDoorIter.lean', which tools/lay-shelf.mjs wrote): THE SAME DECLARATIONS UNDER THE SAME NAMES: 'import', 'namespace', 'open', 'def', 'theorem' AND NOTHING ELSE: no command of the shelf's: FOR A HAND-IN. Each laying: the table of numbers ('.._ren') and one theorem, a field a fact of the dump's own or the kernel's comparison; each contract: ONE APPLICATION.
-/
import Derived.Shelf.SlIter.Nil
import Derived.Shelf.SortM.Plain
import Derived.Shelf.SortM.SortNone
import Derived.Ground.GgzProg
import Derived.Ground.SlgmProg
import Derived.Test.YtpmonnofmnncjaaGreatDoorProg
namespace Go.Proofs
open Go.Shelf
def Tryz.keys136_ren : Go.Shelf.Ren := ⟨fun | 7 => 136 | 10 => 204 | n => n, fun | 23 => 85 | 26 => 9 | 3 => 90 | 28 => 194 | 0 => 0 | 27 => 193 | 33 => 89 | 4 => 4 | n => n, fun | n => n⟩
theorem Tryz.keys136 : Go.Proofs.SlLaysZ.n7 Tryz.prog Tryz.keys136_ren := {
  mixed := by kernel_rfl
  f7 := ⟨Tryz.f136.name, by decide, Tryz.func136.trans (congrArg some (by kernel_rfl))⟩
  f10 := ⟨Tryz.f204.name, by decide, Tryz.func204.trans (congrArg some (by kernel_rfl))⟩
  t0 := Tryz.underlying0
  a0 := Tryz.isAgg0
  z0 := Tryz.sizeOf0
  v0 := Tryz.zeroValue0
  t4 := Tryz.underlying4
  a4 := Tryz.isAgg4
  z4 := Tryz.sizeOf4
  v4 := Tryz.zeroValue4
  t23 := Tryz.underlying85
  a23 := Tryz.isAgg85
  z23 := Tryz.sizeOf85
  v23 := Tryz.zeroValue85
  t26 := Tryz.underlying9
  a26 := Tryz.isAgg9
  z26 := Tryz.sizeOf9
  v26 := Tryz.zeroValue9
  t27 := Tryz.underlying193
  a27 := Tryz.isAgg193
  z27 := Tryz.sizeOf193
  v27 := Tryz.zeroValue193
  t28 := Tryz.underlying194
  a28 := Tryz.isAgg194
  z28 := Tryz.sizeOf194
  v28 := Tryz.zeroValue194
  t33 := Tryz.underlying89
  a33 := Tryz.isAgg89
  z33 := Tryz.sizeOf89
  v33 := Tryz.zeroValue89 }
def Tryz.sorted135_ren : Go.Shelf.Ren := ⟨fun | 6 => 135 | 8 => 202 | 9 => 203 | 11 => 241 | 13 => 206 | 12 => 242 | 23 => 251 | 24 => 252 | 14 => 292 | 15 => 293 | 16 => 294 | 17 => 295 | 18 => 296 | 19 => 297 | 20 => 298 | 21 => 299 | 22 => 300 | 25 => 344 | 26 => 302 | 27 => 303 | 28 => 345 | 29 => 346 | 30 => 347 | 31 => 370 | n => n, fun | 26 => 9 | 28 => 194 | 24 => 41 | 0 => 0 | 3 => 3 | 37 => 209 | 48 => 173 | 50 => 206 | 4 => 4 | 40 => 320 | 39 => 319 | 45 => 324 | 5 => 5 | 9 => 9 | 51 => 365 | 55 => 369 | 57 => 407 | 58 => 343 | 33 => 89 | n => n, fun | n => n⟩
theorem Tryz.sorted135 : Go.Proofs.SlLaysZ.n6 Tryz.prog Tryz.sorted135_ren := {
  mixed := by kernel_rfl
  f6 := ⟨Tryz.f135.name, by decide, Tryz.func135.trans (congrArg some (by kernel_rfl))⟩
  f8 := ⟨Tryz.f202.name, by decide, Tryz.func202.trans (congrArg some (by kernel_rfl))⟩
  f11 := ⟨Tryz.f241.name, by decide, Tryz.func241.trans (congrArg some (by kernel_rfl))⟩
  t0 := Tryz.underlying0
  a0 := Tryz.isAgg0
  z0 := Tryz.sizeOf0
  v0 := Tryz.zeroValue0
  t24 := Tryz.underlying41
  a24 := Tryz.isAgg41
  z24 := Tryz.sizeOf41
  v24 := Tryz.zeroValue41
  t26 := Tryz.underlying9
  a26 := Tryz.isAgg9
  z26 := Tryz.sizeOf9
  v26 := Tryz.zeroValue9
  t28 := Tryz.underlying194
  a28 := Tryz.isAgg194
  z28 := Tryz.sizeOf194
  v28 := Tryz.zeroValue194
  i26 := by kernel_rfl }
def Tryz.sort203_ren : Go.Shelf.Ren := ⟨fun | 6 => 203 | 8 => 206 | 9 => 242 | 19 => 251 | 20 => 252 | 21 => 292 | 22 => 293 | 23 => 294 | 24 => 295 | 25 => 296 | 26 => 297 | 27 => 298 | 28 => 299 | 29 => 300 | 36 => 344 | 31 => 302 | 32 => 303 | 37 => 345 | 38 => 346 | 39 => 347 | 41 => 370 | n => n, fun | 27 => 41 | 29 => 9 | 3 => 3 | 32 => 209 | 26 => 41 | 0 => 0 | 44 => 173 | 46 => 206 | 4 => 4 | 36 => 320 | 35 => 319 | 41 => 324 | 5 => 5 | 9 => 9 | 53 => 365 | 57 => 369 | 63 => 407 | 64 => 343 | n => n, fun | n => n⟩
theorem Tryz.sort203 : Go.Proofs.SlLaysM.n6 Tryz.prog Tryz.sort203_ren := {
  mixed := by kernel_rfl
  f6 := ⟨Tryz.f203.name, by decide, Tryz.func203.trans (congrArg some (by kernel_rfl))⟩
  f8 := Tryz.func206.trans (congrArg some (by kernel_rfl))
  f9 := ⟨Tryz.f242.name, by decide, Tryz.func242.trans (congrArg some (by kernel_rfl))⟩
  f19 := Tryz.func251.trans (congrArg some (by kernel_rfl))
  f20 := Tryz.func252.trans (congrArg some (by kernel_rfl))
  f21 := ⟨Tryz.f292.name, by decide, Tryz.func292.trans (congrArg some (by kernel_rfl))⟩
  f22 := ⟨Tryz.f293.name, by decide, Tryz.func293.trans (congrArg some (by kernel_rfl))⟩
  f23 := ⟨Tryz.f294.name, by decide, Tryz.func294.trans (congrArg some (by kernel_rfl))⟩
  f24 := ⟨Tryz.f295.name, by decide, Tryz.func295.trans (congrArg some (by kernel_rfl))⟩
  f25 := ⟨Tryz.f296.name, by decide, Tryz.func296.trans (congrArg some (by kernel_rfl))⟩
  f26 := ⟨Tryz.f297.name, by decide, Tryz.func297.trans (congrArg some (by kernel_rfl))⟩
  f27 := ⟨Tryz.f298.name, by decide, Tryz.func298.trans (congrArg some (by kernel_rfl))⟩
  f28 := ⟨Tryz.f299.name, by decide, Tryz.func299.trans (congrArg some (by kernel_rfl))⟩
  f29 := ⟨Tryz.f300.name, by decide, Tryz.func300.trans (congrArg some (by kernel_rfl))⟩
  f31 := Tryz.func302.trans (congrArg some (by kernel_rfl))
  f32 := Tryz.func303.trans (congrArg some (by kernel_rfl))
  f36 := ⟨Tryz.f344.name, by decide, Tryz.func344.trans (congrArg some (by kernel_rfl))⟩
  f37 := ⟨Tryz.f345.name, by decide, Tryz.func345.trans (congrArg some (by kernel_rfl))⟩
  f38 := ⟨Tryz.f346.name, by decide, Tryz.func346.trans (congrArg some (by kernel_rfl))⟩
  f39 := ⟨Tryz.f347.name, by decide, Tryz.func347.trans (congrArg some (by kernel_rfl))⟩
  f41 := ⟨Tryz.f370.name, by decide, Tryz.func370.trans (congrArg some (by kernel_rfl))⟩
  t0 := Tryz.underlying0
  a0 := Tryz.isAgg0
  z0 := Tryz.sizeOf0
  v0 := Tryz.zeroValue0
  t3 := Tryz.underlying3
  a3 := Tryz.isAgg3
  z3 := Tryz.sizeOf3
  v3 := Tryz.zeroValue3
  t4 := Tryz.underlying4
  a4 := Tryz.isAgg4
  z4 := Tryz.sizeOf4
  v4 := Tryz.zeroValue4
  t5 := Tryz.underlying5
  a5 := Tryz.isAgg5
  z5 := Tryz.sizeOf5
  v5 := Tryz.zeroValue5
  t9 := Tryz.underlying9
  a9 := Tryz.isAgg9
  z9 := Tryz.sizeOf9
  v9 := Tryz.zeroValue9
  t26 := Tryz.underlying41
  a26 := Tryz.isAgg41
  z26 := Tryz.sizeOf41
  v26 := Tryz.zeroValue41
  t27 := Tryz.underlying41
  a27 := Tryz.isAgg41
  z27 := Tryz.sizeOf41
  v27 := Tryz.zeroValue41
  t29 := Tryz.underlying9
  a29 := Tryz.isAgg9
  z29 := Tryz.sizeOf9
  v29 := Tryz.zeroValue9
  t32 := Tryz.underlying209
  a32 := Tryz.isAgg209
  z32 := Tryz.sizeOf209
  v32 := Tryz.zeroValue209
  t35 := Tryz.underlying319
  a35 := Tryz.isAgg319
  z35 := Tryz.sizeOf319
  v35 := Tryz.zeroValue319
  t36 := Tryz.underlying320
  a36 := Tryz.isAgg320
  z36 := Tryz.sizeOf320
  v36 := Tryz.zeroValue320
  t41 := Tryz.underlying324
  a41 := Tryz.isAgg324
  z41 := Tryz.sizeOf324
  v41 := Tryz.zeroValue324
  t44 := Tryz.underlying173
  a44 := Tryz.isAgg173
  z44 := Tryz.sizeOf173
  v44 := Tryz.zeroValue173
  t46 := Tryz.underlying206
  a46 := Tryz.isAgg206
  z46 := Tryz.sizeOf206
  v46 := Tryz.zeroValue206
  t53 := Tryz.underlying365
  a53 := Tryz.isAgg365
  z53 := Tryz.sizeOf365
  v53 := Tryz.zeroValue365
  t57 := Tryz.underlying369
  a57 := Tryz.isAgg369
  z57 := Tryz.sizeOf369
  v57 := Tryz.zeroValue369
  t63 := Tryz.underlying407
  a63 := Tryz.isAgg407
  z63 := Tryz.sizeOf407
  v63 := Tryz.zeroValue407
  t64 := Tryz.underlying343
  a64 := Tryz.isAgg343
  z64 := Tryz.sizeOf343
  v64 := Tryz.zeroValue343 }
open Go.RowKit Go.Maps Go.Sort in
theorem Tryz.sorts135 (m : Nat) : AnyZ.SortsIn Tryz.prog Tryz.sorted135_ren Fence.wide m :=
  ⟨fun blk off cap ss W hH hblk hsz => callsIn_wide.2 (AnyM.slices_Sort_string Tryz.sort203 blk off cap ss W hH hblk hsz),
   fun p cap W => callsIn_wide.2 (AnyM.slices_Sort_string_none Tryz.sort203 p cap W)⟩
end Go.Proofs
