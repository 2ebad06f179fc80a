/- What the types of this seat's program are: sizes, fields, zero values: each a closed fact. -/
import Derived.Test.YthbfmegbnnmepaaGreatDoorProg
import Derived.Test.YthbfmegbnnmepaaGreatDoorRxIII
namespace Go.Proofs.YthbfmegbnnmepaaGreatDoor
open Go.Rx
theorem T2 : tySz Tryz.prog 2 = some 1 ∧ tyAgg Tryz.prog 2 = some false ∧ tyBytes Tryz.prog 2 = some 8 := by decide +kernel
theorem Z2 : tyZero Tryz.prog 2 = some [.int .i64 0] := by kernel_rfl
theorem U2 : Tryz.prog.underlying 2 = some (.int .i64) := by kernel_rfl
theorem T3 : tySz Tryz.prog 3 = some 1 ∧ tyAgg Tryz.prog 3 = some false ∧ tyBytes Tryz.prog 3 = some 8 := by decide +kernel
theorem Z3 : tyZero Tryz.prog 3 = some [.int .i64 0] := by kernel_rfl
theorem U3 : Tryz.prog.underlying 3 = some (.int .i64) := by kernel_rfl
theorem T4 : tySz Tryz.prog 4 = some 1 ∧ tyAgg Tryz.prog 4 = some false ∧ tyBytes Tryz.prog 4 = some 1 := by decide +kernel
theorem Z4 : tyZero Tryz.prog 4 = some [.bool false] := by kernel_rfl
theorem U4 : Tryz.prog.underlying 4 = some .bool := by kernel_rfl
theorem T5 : tySz Tryz.prog 5 = some 1 ∧ tyAgg Tryz.prog 5 = some false ∧ tyBytes Tryz.prog 5 = some 1 := by decide +kernel
theorem Z5 : tyZero Tryz.prog 5 = some [.int .u8 0] := by kernel_rfl
theorem U5 : Tryz.prog.underlying 5 = some (.int .u8) := by kernel_rfl
theorem T6 : tySz Tryz.prog 6 = some 1 ∧ tyAgg Tryz.prog 6 = some false ∧ tyBytes Tryz.prog 6 = some 1 := by decide +kernel
theorem Z6 : tyZero Tryz.prog 6 = some [.int .u8 0] := by kernel_rfl
theorem U6 : Tryz.prog.underlying 6 = some (.int .u8) := by kernel_rfl
theorem T7 : tySz Tryz.prog 7 = some 4 ∧ tyAgg Tryz.prog 7 = some true ∧ tyBytes Tryz.prog 7 = some 24 ∧ fldsOk Tryz.prog 7 = true ∧ tyFld Tryz.prog 7 0 = some (0, 2) ∧ tyFld Tryz.prog 7 1 = some (1, 3) ∧ tyFld Tryz.prog 7 2 = some (2, 4) ∧ tyFld Tryz.prog 7 3 = some (3, 6) := by decide +kernel
theorem Z7 : tyZero Tryz.prog 7 = some [.int .i64 0, .int .i64 0, .bool false, .int .u8 0] := by kernel_rfl
theorem T8 : tySz Tryz.prog 8 = some 4 ∧ tyAgg Tryz.prog 8 = some true ∧ tyBytes Tryz.prog 8 = some 24 ∧ fldsOk Tryz.prog 8 = true ∧ tyFld Tryz.prog 8 0 = some (0, 2) ∧ tyFld Tryz.prog 8 1 = some (1, 3) ∧ tyFld Tryz.prog 8 2 = some (2, 4) ∧ tyFld Tryz.prog 8 3 = some (3, 6) := by decide +kernel
theorem Z8 : tyZero Tryz.prog 8 = some [.int .i64 0, .int .i64 0, .bool false, .int .u8 0] := by kernel_rfl
theorem T9 : tySz Tryz.prog 9 = some 1 ∧ tyAgg Tryz.prog 9 = some false ∧ tyBytes Tryz.prog 9 = some 16 := by decide +kernel
theorem Z9 : tyZero Tryz.prog 9 = some [.string ⟨#[]⟩] := by kernel_rfl
theorem U9 : Tryz.prog.underlying 9 = some .string := by kernel_rfl
theorem T10 : tySz Tryz.prog 10 = some 1 ∧ tyAgg Tryz.prog 10 = some false ∧ tyBytes Tryz.prog 10 = some 16 := by decide +kernel
theorem Z10 : tyZero Tryz.prog 10 = some [.string ⟨#[]⟩] := by kernel_rfl
theorem U10 : Tryz.prog.underlying 10 = some .string := by kernel_rfl
theorem T11 : tySz Tryz.prog 11 = some 1 ∧ tyAgg Tryz.prog 11 = some false ∧ tyBytes Tryz.prog 11 = some 16 := by decide +kernel
theorem Z11 : tyZero Tryz.prog 11 = some [.string ⟨#[]⟩] := by kernel_rfl
theorem U11 : Tryz.prog.underlying 11 = some .string := by kernel_rfl
theorem T12 : tySz Tryz.prog 12 = some 1 ∧ tyAgg Tryz.prog 12 = some false ∧ tyBytes Tryz.prog 12 = some 8 := by decide +kernel
theorem Z12 : tyZero Tryz.prog 12 = some [.int .u64 0] := by kernel_rfl
theorem U12 : Tryz.prog.underlying 12 = some (.int .u64) := by kernel_rfl
theorem T13 : tySz Tryz.prog 13 = some 2 ∧ tyAgg Tryz.prog 13 = some true ∧ tyBytes Tryz.prog 13 = some 24 ∧ fldsOk Tryz.prog 13 = true ∧ tyFld Tryz.prog 13 0 = some (0, 9) ∧ tyFld Tryz.prog 13 1 = some (1, 12) := by decide +kernel
theorem Z13 : tyZero Tryz.prog 13 = some [.string ⟨#[]⟩, .int .u64 0] := by kernel_rfl
theorem T14 : tySz Tryz.prog 14 = some 2 ∧ tyAgg Tryz.prog 14 = some true ∧ tyBytes Tryz.prog 14 = some 24 ∧ fldsOk Tryz.prog 14 = true ∧ tyFld Tryz.prog 14 0 = some (0, 9) ∧ tyFld Tryz.prog 14 1 = some (1, 12) := by decide +kernel
theorem Z14 : tyZero Tryz.prog 14 = some [.string ⟨#[]⟩, .int .u64 0] := by kernel_rfl
theorem T15 : tySz Tryz.prog 15 = some 1 ∧ tyAgg Tryz.prog 15 = some false ∧ tyBytes Tryz.prog 15 = some 8 := by decide +kernel
theorem Z15 : tyZero Tryz.prog 15 = some [.pointer none] := by kernel_rfl
theorem T16 : tySz Tryz.prog 16 = some 1 ∧ tyAgg Tryz.prog 16 = some false ∧ tyBytes Tryz.prog 16 = some 8 := by decide +kernel
theorem Z16 : tyZero Tryz.prog 16 = some [.pointer none] := by kernel_rfl
theorem T17 : tySz Tryz.prog 17 = some 1 ∧ tyAgg Tryz.prog 17 = some false ∧ tyBytes Tryz.prog 17 = some 8 := by decide +kernel
theorem Z17 : tyZero Tryz.prog 17 = some [.pointer none] := by kernel_rfl
theorem T18 : tySz Tryz.prog 18 = some 1 ∧ tyAgg Tryz.prog 18 = some true ∧ tyBytes Tryz.prog 18 = some 8 ∧ fldsOk Tryz.prog 18 = true ∧ tyFld Tryz.prog 18 0 = some (0, 17) := by decide +kernel
theorem Z18 : tyZero Tryz.prog 18 = some [.pointer none] := by kernel_rfl
theorem T19 : tySz Tryz.prog 19 = some 1 ∧ tyAgg Tryz.prog 19 = some true ∧ tyBytes Tryz.prog 19 = some 8 ∧ fldsOk Tryz.prog 19 = true ∧ tyFld Tryz.prog 19 0 = some (0, 17) := by decide +kernel
theorem Z19 : tyZero Tryz.prog 19 = some [.pointer none] := by kernel_rfl
theorem T21 : tySz Tryz.prog 21 = some 1 ∧ tyAgg Tryz.prog 21 = some false ∧ tyBytes Tryz.prog 21 = some 4 := by decide +kernel
theorem Z21 : tyZero Tryz.prog 21 = some [.int .i32 0] := by kernel_rfl
theorem U21 : Tryz.prog.underlying 21 = some (.int .i32) := by kernel_rfl
theorem T22 : tySz Tryz.prog 22 = some 1 ∧ tyAgg Tryz.prog 22 = some false ∧ tyBytes Tryz.prog 22 = some 24 ∧ tyElem Tryz.prog 22 = some 5 := by decide +kernel
theorem Z22 : tyZero Tryz.prog 22 = some [.slice none 0 0] := by kernel_rfl
theorem T24 : tySz Tryz.prog 24 = some 1 ∧ tyAgg Tryz.prog 24 = some false ∧ tyBytes Tryz.prog 24 = some 24 ∧ tyElem Tryz.prog 24 = some 3 := by decide +kernel
theorem Z24 : tyZero Tryz.prog 24 = some [.slice none 0 0] := by kernel_rfl
theorem T26 : tySz Tryz.prog 26 = some 1 ∧ tyAgg Tryz.prog 26 = some false ∧ tyBytes Tryz.prog 26 = some 24 ∧ tyElem Tryz.prog 26 = some 66 := by decide +kernel
theorem Z26 : tyZero Tryz.prog 26 = some [.slice none 0 0] := by kernel_rfl
theorem T27 : tySz Tryz.prog 27 = some 1 ∧ tyAgg Tryz.prog 27 = some true ∧ tyBytes Tryz.prog 27 = some 24 ∧ fldsOk Tryz.prog 27 = true ∧ tyFld Tryz.prog 27 0 = some (0, 26) := by decide +kernel
theorem Z27 : tyZero Tryz.prog 27 = some [.slice none 0 0] := by kernel_rfl
theorem T28 : tySz Tryz.prog 28 = some 1 ∧ tyAgg Tryz.prog 28 = some true ∧ tyBytes Tryz.prog 28 = some 24 ∧ fldsOk Tryz.prog 28 = true ∧ tyFld Tryz.prog 28 0 = some (0, 26) := by decide +kernel
theorem Z28 : tyZero Tryz.prog 28 = some [.slice none 0 0] := by kernel_rfl
theorem T32 : tySz Tryz.prog 32 = some 1 ∧ tyAgg Tryz.prog 32 = some false ∧ tyBytes Tryz.prog 32 = some 24 ∧ tyElem Tryz.prog 32 = some 151 := by decide +kernel
theorem Z32 : tyZero Tryz.prog 32 = some [.slice none 0 0] := by kernel_rfl
theorem T33 : tySz Tryz.prog 33 = some 3 ∧ tyAgg Tryz.prog 33 = some true ∧ tyBytes Tryz.prog 33 = some 40 ∧ fldsOk Tryz.prog 33 = true ∧ tyFld Tryz.prog 33 0 = some (0, 3) ∧ tyFld Tryz.prog 33 1 = some (1, 3) ∧ tyFld Tryz.prog 33 2 = some (2, 32) := by decide +kernel
theorem Z33 : tyZero Tryz.prog 33 = some [.int .i64 0, .int .i64 0, .slice none 0 0] := by kernel_rfl
theorem T34 : tySz Tryz.prog 34 = some 3 ∧ tyAgg Tryz.prog 34 = some true ∧ tyBytes Tryz.prog 34 = some 40 ∧ fldsOk Tryz.prog 34 = true ∧ tyFld Tryz.prog 34 0 = some (0, 3) ∧ tyFld Tryz.prog 34 1 = some (1, 3) ∧ tyFld Tryz.prog 34 2 = some (2, 32) := by decide +kernel
theorem Z34 : tyZero Tryz.prog 34 = some [.int .i64 0, .int .i64 0, .slice none 0 0] := by kernel_rfl
theorem T35 : tySz Tryz.prog 35 = some 1 ∧ tyAgg Tryz.prog 35 = some false ∧ tyBytes Tryz.prog 35 = some 24 ∧ tyElem Tryz.prog 35 = some 200 := by decide +kernel
theorem Z35 : tyZero Tryz.prog 35 = some [.slice none 0 0] := by kernel_rfl
theorem T36 : tySz Tryz.prog 36 = some 14 ∧ tyAgg Tryz.prog 36 = some true ∧ tyBytes Tryz.prog 36 = some 176 ∧ fldsOk Tryz.prog 36 = true ∧ tyFld Tryz.prog 36 0 = some (0, 3) ∧ tyFld Tryz.prog 36 1 = some (1, 3) ∧ tyFld Tryz.prog 36 2 = some (2, 3) ∧ tyFld Tryz.prog 36 3 = some (3, 3) ∧ tyFld Tryz.prog 36 4 = some (4, 3) ∧ tyFld Tryz.prog 36 5 = some (5, 24) ∧ tyFld Tryz.prog 36 6 = some (6, 34) ∧ tyFld Tryz.prog 36 7 = some (9, 3) ∧ tyFld Tryz.prog 36 8 = some (10, 3) ∧ tyFld Tryz.prog 36 9 = some (11, 3) ∧ tyFld Tryz.prog 36 10 = some (12, 24) ∧ tyFld Tryz.prog 36 11 = some (13, 35) := by decide +kernel
theorem Z36 : tyZero Tryz.prog 36 = some [.int .i64 0, .int .i64 0, .int .i64 0, .int .i64 0, .int .i64 0, .slice none 0 0, .int .i64 0, .int .i64 0, .slice none 0 0, .int .i64 0, .int .i64 0, .int .i64 0, .slice none 0 0, .slice none 0 0] := by kernel_rfl
theorem T37 : tySz Tryz.prog 37 = some 14 ∧ tyAgg Tryz.prog 37 = some true ∧ tyBytes Tryz.prog 37 = some 176 ∧ fldsOk Tryz.prog 37 = true ∧ tyFld Tryz.prog 37 0 = some (0, 3) ∧ tyFld Tryz.prog 37 1 = some (1, 3) ∧ tyFld Tryz.prog 37 2 = some (2, 3) ∧ tyFld Tryz.prog 37 3 = some (3, 3) ∧ tyFld Tryz.prog 37 4 = some (4, 3) ∧ tyFld Tryz.prog 37 5 = some (5, 24) ∧ tyFld Tryz.prog 37 6 = some (6, 34) ∧ tyFld Tryz.prog 37 7 = some (9, 3) ∧ tyFld Tryz.prog 37 8 = some (10, 3) ∧ tyFld Tryz.prog 37 9 = some (11, 3) ∧ tyFld Tryz.prog 37 10 = some (12, 24) ∧ tyFld Tryz.prog 37 11 = some (13, 35) := by decide +kernel
theorem Z37 : tyZero Tryz.prog 37 = some [.int .i64 0, .int .i64 0, .int .i64 0, .int .i64 0, .int .i64 0, .slice none 0 0, .int .i64 0, .int .i64 0, .slice none 0 0, .int .i64 0, .int .i64 0, .int .i64 0, .slice none 0 0, .slice none 0 0] := by kernel_rfl
theorem T38 : tySz Tryz.prog 38 = some 6 ∧ tyAgg Tryz.prog 38 = some true ∧ tyBytes Tryz.prog 38 = some 64 ∧ fldsOk Tryz.prog 38 = true ∧ tyFld Tryz.prog 38 0 = some (0, 3) ∧ tyFld Tryz.prog 38 1 = some (1, 3) ∧ tyFld Tryz.prog 38 2 = some (2, 3) ∧ tyFld Tryz.prog 38 3 = some (3, 34) := by decide +kernel
theorem Z38 : tyZero Tryz.prog 38 = some [.int .i64 0, .int .i64 0, .int .i64 0, .int .i64 0, .int .i64 0, .slice none 0 0] := by kernel_rfl
theorem T39 : tySz Tryz.prog 39 = some 6 ∧ tyAgg Tryz.prog 39 = some true ∧ tyBytes Tryz.prog 39 = some 64 ∧ fldsOk Tryz.prog 39 = true ∧ tyFld Tryz.prog 39 0 = some (0, 3) ∧ tyFld Tryz.prog 39 1 = some (1, 3) ∧ tyFld Tryz.prog 39 2 = some (2, 3) ∧ tyFld Tryz.prog 39 3 = some (3, 34) := by decide +kernel
theorem Z39 : tyZero Tryz.prog 39 = some [.int .i64 0, .int .i64 0, .int .i64 0, .int .i64 0, .int .i64 0, .slice none 0 0] := by kernel_rfl
theorem T40 : tySz Tryz.prog 40 = some 1 ∧ tyAgg Tryz.prog 40 = some false ∧ tyBytes Tryz.prog 40 = some 24 ∧ tyElem Tryz.prog 40 = some 104 := by decide +kernel
theorem Z40 : tyZero Tryz.prog 40 = some [.slice none 0 0] := by kernel_rfl
theorem T41 : tySz Tryz.prog 41 = some 1 ∧ tyAgg Tryz.prog 41 = some false ∧ tyBytes Tryz.prog 41 = some 24 ∧ tyElem Tryz.prog 41 = some 110 := by decide +kernel
theorem Z41 : tyZero Tryz.prog 41 = some [.slice none 0 0] := by kernel_rfl
theorem T42 : tySz Tryz.prog 42 = some 1 ∧ tyAgg Tryz.prog 42 = some false ∧ tyBytes Tryz.prog 42 = some 24 ∧ tyElem Tryz.prog 42 = some 117 := by decide +kernel
theorem Z42 : tyZero Tryz.prog 42 = some [.slice none 0 0] := by kernel_rfl
theorem T43 : tySz Tryz.prog 43 = some 5 ∧ tyAgg Tryz.prog 43 = some true ∧ tyBytes Tryz.prog 43 = some 88 ∧ fldsOk Tryz.prog 43 = true ∧ tyFld Tryz.prog 43 0 = some (0, 40) ∧ tyFld Tryz.prog 43 1 = some (1, 41) ∧ tyFld Tryz.prog 43 2 = some (2, 42) ∧ tyFld Tryz.prog 43 3 = some (3, 3) ∧ tyFld Tryz.prog 43 4 = some (4, 3) := by decide +kernel
theorem Z43 : tyZero Tryz.prog 43 = some [.slice none 0 0, .slice none 0 0, .slice none 0 0, .int .i64 0, .int .i64 0] := by kernel_rfl
theorem T44 : tySz Tryz.prog 44 = some 5 ∧ tyAgg Tryz.prog 44 = some true ∧ tyBytes Tryz.prog 44 = some 88 ∧ fldsOk Tryz.prog 44 = true ∧ tyFld Tryz.prog 44 0 = some (0, 40) ∧ tyFld Tryz.prog 44 1 = some (1, 41) ∧ tyFld Tryz.prog 44 2 = some (2, 42) ∧ tyFld Tryz.prog 44 3 = some (3, 3) ∧ tyFld Tryz.prog 44 4 = some (4, 3) := by decide +kernel
theorem Z44 : tyZero Tryz.prog 44 = some [.slice none 0 0, .slice none 0 0, .slice none 0 0, .int .i64 0, .int .i64 0] := by kernel_rfl
theorem T45 : tySz Tryz.prog 45 = some 30 ∧ tyAgg Tryz.prog 45 = some true ∧ tyBytes Tryz.prog 45 = some 392 ∧ fldsOk Tryz.prog 45 = true ∧ tyFld Tryz.prog 45 0 = some (0, 37) ∧ tyFld Tryz.prog 45 1 = some (14, 28) ∧ tyFld Tryz.prog 45 2 = some (15, 39) ∧ tyFld Tryz.prog 45 3 = some (21, 44) ∧ tyFld Tryz.prog 45 4 = some (26, 3) ∧ tyFld Tryz.prog 45 5 = some (27, 9) ∧ tyFld Tryz.prog 45 6 = some (28, 3) ∧ tyFld Tryz.prog 45 7 = some (29, 3) := by decide +kernel
theorem Z45 : tyZero Tryz.prog 45 = some [.int .i64 0, .int .i64 0, .int .i64 0, .int .i64 0, .int .i64 0, .slice none 0 0, .int .i64 0, .int .i64 0, .slice none 0 0, .int .i64 0, .int .i64 0, .int .i64 0, .slice none 0 0, .slice none 0 0, .slice none 0 0, .int .i64 0, .int .i64 0, .int .i64 0, .int .i64 0, .int .i64 0, .slice none 0 0, .slice none 0 0, .slice none 0 0, .slice none 0 0, .int .i64 0, .int .i64 0, .int .i64 0, .string ⟨#[]⟩, .int .i64 0, .int .i64 0] := by kernel_rfl
theorem T46 : tySz Tryz.prog 46 = some 30 ∧ tyAgg Tryz.prog 46 = some true ∧ tyBytes Tryz.prog 46 = some 392 ∧ fldsOk Tryz.prog 46 = true ∧ tyFld Tryz.prog 46 0 = some (0, 37) ∧ tyFld Tryz.prog 46 1 = some (14, 28) ∧ tyFld Tryz.prog 46 2 = some (15, 39) ∧ tyFld Tryz.prog 46 3 = some (21, 44) ∧ tyFld Tryz.prog 46 4 = some (26, 3) ∧ tyFld Tryz.prog 46 5 = some (27, 9) ∧ tyFld Tryz.prog 46 6 = some (28, 3) ∧ tyFld Tryz.prog 46 7 = some (29, 3) := by decide +kernel
theorem Z46 : tyZero Tryz.prog 46 = some [.int .i64 0, .int .i64 0, .int .i64 0, .int .i64 0, .int .i64 0, .slice none 0 0, .int .i64 0, .int .i64 0, .slice none 0 0, .int .i64 0, .int .i64 0, .int .i64 0, .slice none 0 0, .slice none 0 0, .slice none 0 0, .int .i64 0, .int .i64 0, .int .i64 0, .int .i64 0, .int .i64 0, .slice none 0 0, .slice none 0 0, .slice none 0 0, .slice none 0 0, .int .i64 0, .int .i64 0, .int .i64 0, .string ⟨#[]⟩, .int .i64 0, .int .i64 0] := by kernel_rfl
theorem T47 : tySz Tryz.prog 47 = some 1 ∧ tyAgg Tryz.prog 47 = some false ∧ tyBytes Tryz.prog 47 = some 24 ∧ tyElem Tryz.prog 47 = some 142 := by decide +kernel
theorem Z47 : tyZero Tryz.prog 47 = some [.slice none 0 0] := by kernel_rfl
theorem T54 : tySz Tryz.prog 54 = some 1 ∧ tyAgg Tryz.prog 54 = some false ∧ tyBytes Tryz.prog 54 = some 8 := by decide +kernel
theorem Z54 : tyZero Tryz.prog 54 = some [.pointer none] := by kernel_rfl
theorem T60 : tySz Tryz.prog 60 = some 4 ∧ tyAgg Tryz.prog 60 = some true ∧ tyBytes Tryz.prog 60 = some 56 ∧ fldsOk Tryz.prog 60 = true ∧ tyFld Tryz.prog 60 0 = some (0, 3) ∧ tyFld Tryz.prog 60 1 = some (1, 3) ∧ tyFld Tryz.prog 60 2 = some (2, 24) ∧ tyFld Tryz.prog 60 3 = some (3, 9) := by decide +kernel
theorem Z60 : tyZero Tryz.prog 60 = some [.int .i64 0, .int .i64 0, .slice none 0 0, .string ⟨#[]⟩] := by kernel_rfl
theorem T61 : tySz Tryz.prog 61 = some 4 ∧ tyAgg Tryz.prog 61 = some true ∧ tyBytes Tryz.prog 61 = some 56 ∧ fldsOk Tryz.prog 61 = true ∧ tyFld Tryz.prog 61 0 = some (0, 3) ∧ tyFld Tryz.prog 61 1 = some (1, 3) ∧ tyFld Tryz.prog 61 2 = some (2, 24) ∧ tyFld Tryz.prog 61 3 = some (3, 9) := by decide +kernel
theorem Z61 : tyZero Tryz.prog 61 = some [.int .i64 0, .int .i64 0, .slice none 0 0, .string ⟨#[]⟩] := by kernel_rfl
theorem T65 : tySz Tryz.prog 65 = some 3 ∧ tyAgg Tryz.prog 65 = some true ∧ tyBytes Tryz.prog 65 = some 40 ∧ fldsOk Tryz.prog 65 = true ∧ tyFld Tryz.prog 65 0 = some (0, 9) ∧ tyFld Tryz.prog 65 1 = some (1, 9) ∧ tyFld Tryz.prog 65 2 = some (2, 3) := by decide +kernel
theorem Z65 : tyZero Tryz.prog 65 = some [.string ⟨#[]⟩, .string ⟨#[]⟩, .int .i64 0] := by kernel_rfl
theorem T66 : tySz Tryz.prog 66 = some 3 ∧ tyAgg Tryz.prog 66 = some true ∧ tyBytes Tryz.prog 66 = some 40 ∧ fldsOk Tryz.prog 66 = true ∧ tyFld Tryz.prog 66 0 = some (0, 9) ∧ tyFld Tryz.prog 66 1 = some (1, 9) ∧ tyFld Tryz.prog 66 2 = some (2, 3) := by decide +kernel
theorem Z66 : tyZero Tryz.prog 66 = some [.string ⟨#[]⟩, .string ⟨#[]⟩, .int .i64 0] := by kernel_rfl
theorem T86 : tySz Tryz.prog 86 = some 1 ∧ tyAgg Tryz.prog 86 = some false ∧ tyBytes Tryz.prog 86 = some 24 ∧ tyElem Tryz.prog 86 = some 9 := by decide +kernel
theorem Z86 : tyZero Tryz.prog 86 = some [.slice none 0 0] := by kernel_rfl
theorem T93 : tySz Tryz.prog 93 = some 3 ∧ tyAgg Tryz.prog 93 = some true ∧ tyBytes Tryz.prog 93 = some 40 ∧ fldsOk Tryz.prog 93 = true ∧ tyFld Tryz.prog 93 0 = some (0, 22) ∧ tyFld Tryz.prog 93 1 = some (1, 3) ∧ tyFld Tryz.prog 93 2 = some (2, 3) := by decide +kernel
theorem Z93 : tyZero Tryz.prog 93 = some [.slice none 0 0, .int .i64 0, .int .i64 0] := by kernel_rfl
theorem T94 : tySz Tryz.prog 94 = some 3 ∧ tyAgg Tryz.prog 94 = some true ∧ tyBytes Tryz.prog 94 = some 40 ∧ fldsOk Tryz.prog 94 = true ∧ tyFld Tryz.prog 94 0 = some (0, 22) ∧ tyFld Tryz.prog 94 1 = some (1, 3) ∧ tyFld Tryz.prog 94 2 = some (2, 3) := by decide +kernel
theorem Z94 : tyZero Tryz.prog 94 = some [.slice none 0 0, .int .i64 0, .int .i64 0] := by kernel_rfl
theorem T96 : tySz Tryz.prog 96 = some 1 ∧ tyAgg Tryz.prog 96 = some false ∧ tyBytes Tryz.prog 96 = some 8 := by decide +kernel
theorem Z96 : tyZero Tryz.prog 96 = some [.pointer none] := by kernel_rfl
theorem T97 : tySz Tryz.prog 97 = some 2 ∧ tyAgg Tryz.prog 97 = some true ∧ tyBytes Tryz.prog 97 = some 32 ∧ fldsOk Tryz.prog 97 = true ∧ tyFld Tryz.prog 97 0 = some (0, 96) ∧ tyFld Tryz.prog 97 1 = some (1, 22) := by decide +kernel
theorem Z97 : tyZero Tryz.prog 97 = some [.pointer none, .slice none 0 0] := by kernel_rfl
theorem T98 : tySz Tryz.prog 98 = some 2 ∧ tyAgg Tryz.prog 98 = some true ∧ tyBytes Tryz.prog 98 = some 32 ∧ fldsOk Tryz.prog 98 = true ∧ tyFld Tryz.prog 98 0 = some (0, 96) ∧ tyFld Tryz.prog 98 1 = some (1, 22) := by decide +kernel
theorem Z98 : tyZero Tryz.prog 98 = some [.pointer none, .slice none 0 0] := by kernel_rfl
theorem T103 : tySz Tryz.prog 103 = some 3 ∧ tyAgg Tryz.prog 103 = some true ∧ tyBytes Tryz.prog 103 = some 32 ∧ fldsOk Tryz.prog 103 = true ∧ tyFld Tryz.prog 103 0 = some (0, 3) ∧ tyFld Tryz.prog 103 1 = some (1, 3) ∧ tyFld Tryz.prog 103 2 = some (2, 9) := by decide +kernel
theorem Z103 : tyZero Tryz.prog 103 = some [.int .i64 0, .int .i64 0, .string ⟨#[]⟩] := by kernel_rfl
theorem T104 : tySz Tryz.prog 104 = some 3 ∧ tyAgg Tryz.prog 104 = some true ∧ tyBytes Tryz.prog 104 = some 32 ∧ fldsOk Tryz.prog 104 = true ∧ tyFld Tryz.prog 104 0 = some (0, 3) ∧ tyFld Tryz.prog 104 1 = some (1, 3) ∧ tyFld Tryz.prog 104 2 = some (2, 9) := by decide +kernel
theorem Z104 : tyZero Tryz.prog 104 = some [.int .i64 0, .int .i64 0, .string ⟨#[]⟩] := by kernel_rfl
theorem T106 : tySz Tryz.prog 106 = some 1 ∧ tyAgg Tryz.prog 106 = some false ∧ tyBytes Tryz.prog 106 = some 24 ∧ tyElem Tryz.prog 106 = some 175 := by decide +kernel
theorem Z106 : tyZero Tryz.prog 106 = some [.slice none 0 0] := by kernel_rfl
theorem T107 : tySz Tryz.prog 107 = some 6 ∧ tyAgg Tryz.prog 107 = some true ∧ tyBytes Tryz.prog 107 = some 80 ∧ fldsOk Tryz.prog 107 = true ∧ tyFld Tryz.prog 107 0 = some (0, 9) ∧ tyFld Tryz.prog 107 1 = some (1, 9) ∧ tyFld Tryz.prog 107 2 = some (2, 3) ∧ tyFld Tryz.prog 107 3 = some (3, 3) ∧ tyFld Tryz.prog 107 4 = some (4, 4) ∧ tyFld Tryz.prog 107 5 = some (5, 106) := by decide +kernel
theorem Z107 : tyZero Tryz.prog 107 = some [.string ⟨#[]⟩, .string ⟨#[]⟩, .int .i64 0, .int .i64 0, .bool false, .slice none 0 0] := by kernel_rfl
theorem T108 : tySz Tryz.prog 108 = some 6 ∧ tyAgg Tryz.prog 108 = some true ∧ tyBytes Tryz.prog 108 = some 80 ∧ fldsOk Tryz.prog 108 = true ∧ tyFld Tryz.prog 108 0 = some (0, 9) ∧ tyFld Tryz.prog 108 1 = some (1, 9) ∧ tyFld Tryz.prog 108 2 = some (2, 3) ∧ tyFld Tryz.prog 108 3 = some (3, 3) ∧ tyFld Tryz.prog 108 4 = some (4, 4) ∧ tyFld Tryz.prog 108 5 = some (5, 106) := by decide +kernel
theorem Z108 : tyZero Tryz.prog 108 = some [.string ⟨#[]⟩, .string ⟨#[]⟩, .int .i64 0, .int .i64 0, .bool false, .slice none 0 0] := by kernel_rfl
theorem T109 : tySz Tryz.prog 109 = some 9 ∧ tyAgg Tryz.prog 109 = some true ∧ tyBytes Tryz.prog 109 = some 104 ∧ fldsOk Tryz.prog 109 = true ∧ tyFld Tryz.prog 109 0 = some (0, 108) ∧ tyFld Tryz.prog 109 1 = some (6, 4) ∧ tyFld Tryz.prog 109 2 = some (7, 3) ∧ tyFld Tryz.prog 109 3 = some (8, 3) := by decide +kernel
theorem Z109 : tyZero Tryz.prog 109 = some [.string ⟨#[]⟩, .string ⟨#[]⟩, .int .i64 0, .int .i64 0, .bool false, .slice none 0 0, .bool false, .int .i64 0, .int .i64 0] := by kernel_rfl
theorem T110 : tySz Tryz.prog 110 = some 9 ∧ tyAgg Tryz.prog 110 = some true ∧ tyBytes Tryz.prog 110 = some 104 ∧ fldsOk Tryz.prog 110 = true ∧ tyFld Tryz.prog 110 0 = some (0, 108) ∧ tyFld Tryz.prog 110 1 = some (6, 4) ∧ tyFld Tryz.prog 110 2 = some (7, 3) ∧ tyFld Tryz.prog 110 3 = some (8, 3) := by decide +kernel
theorem Z110 : tyZero Tryz.prog 110 = some [.string ⟨#[]⟩, .string ⟨#[]⟩, .int .i64 0, .int .i64 0, .bool false, .slice none 0 0, .bool false, .int .i64 0, .int .i64 0] := by kernel_rfl
theorem T113 : tySz Tryz.prog 113 = some 2 ∧ tyAgg Tryz.prog 113 = some true ∧ tyBytes Tryz.prog 113 = some 16 ∧ fldsOk Tryz.prog 113 = true ∧ tyFld Tryz.prog 113 0 = some (0, 3) ∧ tyFld Tryz.prog 113 1 = some (1, 3) := by decide +kernel
theorem Z113 : tyZero Tryz.prog 113 = some [.int .i64 0, .int .i64 0] := by kernel_rfl
theorem T114 : tySz Tryz.prog 114 = some 2 ∧ tyAgg Tryz.prog 114 = some true ∧ tyBytes Tryz.prog 114 = some 16 ∧ fldsOk Tryz.prog 114 = true ∧ tyFld Tryz.prog 114 0 = some (0, 3) ∧ tyFld Tryz.prog 114 1 = some (1, 3) := by decide +kernel
theorem Z114 : tyZero Tryz.prog 114 = some [.int .i64 0, .int .i64 0] := by kernel_rfl
theorem T115 : tySz Tryz.prog 115 = some 1 ∧ tyAgg Tryz.prog 115 = some false ∧ tyBytes Tryz.prog 115 = some 24 ∧ tyElem Tryz.prog 115 = some 119 := by decide +kernel
theorem Z115 : tyZero Tryz.prog 115 = some [.slice none 0 0] := by kernel_rfl
theorem T116 : tySz Tryz.prog 116 = some 5 ∧ tyAgg Tryz.prog 116 = some true ∧ tyBytes Tryz.prog 116 = some 64 ∧ fldsOk Tryz.prog 116 = true ∧ tyFld Tryz.prog 116 0 = some (0, 9) ∧ tyFld Tryz.prog 116 1 = some (1, 114) ∧ tyFld Tryz.prog 116 2 = some (3, 3) ∧ tyFld Tryz.prog 116 3 = some (4, 115) := by decide +kernel
theorem Z116 : tyZero Tryz.prog 116 = some [.string ⟨#[]⟩, .int .i64 0, .int .i64 0, .int .i64 0, .slice none 0 0] := by kernel_rfl
theorem T117 : tySz Tryz.prog 117 = some 5 ∧ tyAgg Tryz.prog 117 = some true ∧ tyBytes Tryz.prog 117 = some 64 ∧ fldsOk Tryz.prog 117 = true ∧ tyFld Tryz.prog 117 0 = some (0, 9) ∧ tyFld Tryz.prog 117 1 = some (1, 114) ∧ tyFld Tryz.prog 117 2 = some (3, 3) ∧ tyFld Tryz.prog 117 3 = some (4, 115) := by decide +kernel
theorem Z117 : tyZero Tryz.prog 117 = some [.string ⟨#[]⟩, .int .i64 0, .int .i64 0, .int .i64 0, .slice none 0 0] := by kernel_rfl
theorem T118 : tySz Tryz.prog 118 = some 4 ∧ tyAgg Tryz.prog 118 = some true ∧ tyBytes Tryz.prog 118 = some 32 ∧ fldsOk Tryz.prog 118 = true ∧ tyFld Tryz.prog 118 0 = some (0, 3) ∧ tyFld Tryz.prog 118 1 = some (1, 3) ∧ tyFld Tryz.prog 118 2 = some (2, 3) ∧ tyFld Tryz.prog 118 3 = some (3, 3) := by decide +kernel
theorem Z118 : tyZero Tryz.prog 118 = some [.int .i64 0, .int .i64 0, .int .i64 0, .int .i64 0] := by kernel_rfl
theorem T119 : tySz Tryz.prog 119 = some 4 ∧ tyAgg Tryz.prog 119 = some true ∧ tyBytes Tryz.prog 119 = some 32 ∧ fldsOk Tryz.prog 119 = true ∧ tyFld Tryz.prog 119 0 = some (0, 3) ∧ tyFld Tryz.prog 119 1 = some (1, 3) ∧ tyFld Tryz.prog 119 2 = some (2, 3) ∧ tyFld Tryz.prog 119 3 = some (3, 3) := by decide +kernel
theorem Z119 : tyZero Tryz.prog 119 = some [.int .i64 0, .int .i64 0, .int .i64 0, .int .i64 0] := by kernel_rfl
theorem T127 : tySz Tryz.prog 127 = some 1 ∧ tyAgg Tryz.prog 127 = some false ∧ tyBytes Tryz.prog 127 = some 8 := by decide +kernel
theorem Z127 : tyZero Tryz.prog 127 = some [.pointer none] := by kernel_rfl
theorem T132 : tySz Tryz.prog 132 = some 3 ∧ tyAgg Tryz.prog 132 = some true ∧ tyBytes Tryz.prog 132 = some 32 ∧ fldsOk Tryz.prog 132 = true ∧ tyFld Tryz.prog 132 0 = some (0, 9) ∧ tyFld Tryz.prog 132 1 = some (1, 3) ∧ tyFld Tryz.prog 132 2 = some (2, 4) := by decide +kernel
theorem Z132 : tyZero Tryz.prog 132 = some [.string ⟨#[]⟩, .int .i64 0, .bool false] := by kernel_rfl
theorem T133 : tySz Tryz.prog 133 = some 3 ∧ tyAgg Tryz.prog 133 = some true ∧ tyBytes Tryz.prog 133 = some 32 ∧ fldsOk Tryz.prog 133 = true ∧ tyFld Tryz.prog 133 0 = some (0, 9) ∧ tyFld Tryz.prog 133 1 = some (1, 3) ∧ tyFld Tryz.prog 133 2 = some (2, 4) := by decide +kernel
theorem Z133 : tyZero Tryz.prog 133 = some [.string ⟨#[]⟩, .int .i64 0, .bool false] := by kernel_rfl
theorem T141 : tySz Tryz.prog 141 = some 4 ∧ tyAgg Tryz.prog 141 = some true ∧ tyBytes Tryz.prog 141 = some 56 ∧ fldsOk Tryz.prog 141 = true ∧ tyFld Tryz.prog 141 0 = some (0, 3) ∧ tyFld Tryz.prog 141 1 = some (1, 9) ∧ tyFld Tryz.prog 141 2 = some (2, 9) ∧ tyFld Tryz.prog 141 3 = some (3, 9) := by decide +kernel
theorem Z141 : tyZero Tryz.prog 141 = some [.int .i64 0, .string ⟨#[]⟩, .string ⟨#[]⟩, .string ⟨#[]⟩] := by kernel_rfl
theorem T142 : tySz Tryz.prog 142 = some 4 ∧ tyAgg Tryz.prog 142 = some true ∧ tyBytes Tryz.prog 142 = some 56 ∧ fldsOk Tryz.prog 142 = true ∧ tyFld Tryz.prog 142 0 = some (0, 3) ∧ tyFld Tryz.prog 142 1 = some (1, 9) ∧ tyFld Tryz.prog 142 2 = some (2, 9) ∧ tyFld Tryz.prog 142 3 = some (3, 9) := by decide +kernel
theorem Z142 : tyZero Tryz.prog 142 = some [.int .i64 0, .string ⟨#[]⟩, .string ⟨#[]⟩, .string ⟨#[]⟩] := by kernel_rfl
theorem T150 : tySz Tryz.prog 150 = some 3 ∧ tyAgg Tryz.prog 150 = some true ∧ tyBytes Tryz.prog 150 = some 32 ∧ fldsOk Tryz.prog 150 = true ∧ tyFld Tryz.prog 150 0 = some (0, 3) ∧ tyFld Tryz.prog 150 1 = some (1, 3) ∧ tyFld Tryz.prog 150 2 = some (2, 9) := by decide +kernel
theorem Z150 : tyZero Tryz.prog 150 = some [.int .i64 0, .int .i64 0, .string ⟨#[]⟩] := by kernel_rfl
theorem T151 : tySz Tryz.prog 151 = some 3 ∧ tyAgg Tryz.prog 151 = some true ∧ tyBytes Tryz.prog 151 = some 32 ∧ fldsOk Tryz.prog 151 = true ∧ tyFld Tryz.prog 151 0 = some (0, 3) ∧ tyFld Tryz.prog 151 1 = some (1, 3) ∧ tyFld Tryz.prog 151 2 = some (2, 9) := by decide +kernel
theorem Z151 : tyZero Tryz.prog 151 = some [.int .i64 0, .int .i64 0, .string ⟨#[]⟩] := by kernel_rfl
theorem T158 : tySz Tryz.prog 158 = some 8 ∧ tyAgg Tryz.prog 158 = some true ∧ tyBytes Tryz.prog 158 = some 80 ∧ fldsOk Tryz.prog 158 = true ∧ tyFld Tryz.prog 158 0 = some (0, 3) ∧ tyFld Tryz.prog 158 1 = some (1, 3) ∧ tyFld Tryz.prog 158 2 = some (2, 3) ∧ tyFld Tryz.prog 158 3 = some (3, 9) ∧ tyFld Tryz.prog 158 4 = some (4, 9) ∧ tyFld Tryz.prog 158 5 = some (5, 3) ∧ tyFld Tryz.prog 158 6 = some (6, 3) ∧ tyFld Tryz.prog 158 7 = some (7, 4) := by decide +kernel
theorem Z158 : tyZero Tryz.prog 158 = some [.int .i64 0, .int .i64 0, .int .i64 0, .string ⟨#[]⟩, .string ⟨#[]⟩, .int .i64 0, .int .i64 0, .bool false] := by kernel_rfl
theorem T159 : tySz Tryz.prog 159 = some 8 ∧ tyAgg Tryz.prog 159 = some true ∧ tyBytes Tryz.prog 159 = some 80 ∧ fldsOk Tryz.prog 159 = true ∧ tyFld Tryz.prog 159 0 = some (0, 3) ∧ tyFld Tryz.prog 159 1 = some (1, 3) ∧ tyFld Tryz.prog 159 2 = some (2, 3) ∧ tyFld Tryz.prog 159 3 = some (3, 9) ∧ tyFld Tryz.prog 159 4 = some (4, 9) ∧ tyFld Tryz.prog 159 5 = some (5, 3) ∧ tyFld Tryz.prog 159 6 = some (6, 3) ∧ tyFld Tryz.prog 159 7 = some (7, 4) := by decide +kernel
theorem Z159 : tyZero Tryz.prog 159 = some [.int .i64 0, .int .i64 0, .int .i64 0, .string ⟨#[]⟩, .string ⟨#[]⟩, .int .i64 0, .int .i64 0, .bool false] := by kernel_rfl
theorem T174 : tySz Tryz.prog 174 = some 5 ∧ tyAgg Tryz.prog 174 = some true ∧ tyBytes Tryz.prog 174 = some 72 ∧ fldsOk Tryz.prog 174 = true ∧ tyFld Tryz.prog 174 0 = some (0, 9) ∧ tyFld Tryz.prog 174 1 = some (1, 9) ∧ tyFld Tryz.prog 174 2 = some (2, 3) ∧ tyFld Tryz.prog 174 3 = some (3, 4) ∧ tyFld Tryz.prog 174 4 = some (4, 86) := by decide +kernel
theorem Z174 : tyZero Tryz.prog 174 = some [.string ⟨#[]⟩, .string ⟨#[]⟩, .int .i64 0, .bool false, .slice none 0 0] := by kernel_rfl
theorem T175 : tySz Tryz.prog 175 = some 5 ∧ tyAgg Tryz.prog 175 = some true ∧ tyBytes Tryz.prog 175 = some 72 ∧ fldsOk Tryz.prog 175 = true ∧ tyFld Tryz.prog 175 0 = some (0, 9) ∧ tyFld Tryz.prog 175 1 = some (1, 9) ∧ tyFld Tryz.prog 175 2 = some (2, 3) ∧ tyFld Tryz.prog 175 3 = some (3, 4) ∧ tyFld Tryz.prog 175 4 = some (4, 86) := by decide +kernel
theorem Z175 : tyZero Tryz.prog 175 = some [.string ⟨#[]⟩, .string ⟨#[]⟩, .int .i64 0, .bool false, .slice none 0 0] := by kernel_rfl
theorem T179 : tySz Tryz.prog 179 = some 1 ∧ tyAgg Tryz.prog 179 = some false ∧ tyBytes Tryz.prog 179 = some 8 := by decide +kernel
theorem Z179 : tyZero Tryz.prog 179 = some [.pointer none] := by kernel_rfl
theorem T186 : tySz Tryz.prog 186 = some 1 ∧ tyAgg Tryz.prog 186 = some false ∧ tyBytes Tryz.prog 186 = some 8 := by decide +kernel
theorem Z186 : tyZero Tryz.prog 186 = some [.pointer none] := by kernel_rfl
theorem T198 : tySz Tryz.prog 198 = some 1 ∧ tyAgg Tryz.prog 198 = some false ∧ tyBytes Tryz.prog 198 = some 8 := by decide +kernel
theorem Z198 : tyZero Tryz.prog 198 = some [.pointer none] := by kernel_rfl
theorem T199 : tySz Tryz.prog 199 = some 4 ∧ tyAgg Tryz.prog 199 = some true ∧ tyBytes Tryz.prog 199 = some 32 ∧ fldsOk Tryz.prog 199 = true ∧ tyFld Tryz.prog 199 0 = some (0, 3) ∧ tyFld Tryz.prog 199 1 = some (1, 3) ∧ tyFld Tryz.prog 199 2 = some (2, 3) ∧ tyFld Tryz.prog 199 3 = some (3, 3) := by decide +kernel
theorem Z199 : tyZero Tryz.prog 199 = some [.int .i64 0, .int .i64 0, .int .i64 0, .int .i64 0] := by kernel_rfl
theorem T200 : tySz Tryz.prog 200 = some 4 ∧ tyAgg Tryz.prog 200 = some true ∧ tyBytes Tryz.prog 200 = some 32 ∧ fldsOk Tryz.prog 200 = true ∧ tyFld Tryz.prog 200 0 = some (0, 3) ∧ tyFld Tryz.prog 200 1 = some (1, 3) ∧ tyFld Tryz.prog 200 2 = some (2, 3) ∧ tyFld Tryz.prog 200 3 = some (3, 3) := by decide +kernel
theorem Z200 : tyZero Tryz.prog 200 = some [.int .i64 0, .int .i64 0, .int .i64 0, .int .i64 0] := by kernel_rfl
theorem T212 : tySz Tryz.prog 212 = some 1 ∧ tyAgg Tryz.prog 212 = some false ∧ tyBytes Tryz.prog 212 = some 8 := by decide +kernel
theorem Z212 : tyZero Tryz.prog 212 = some [.int .u64 0] := by kernel_rfl
theorem U212 : Tryz.prog.underlying 212 = some (.int .u64) := by kernel_rfl
theorem T223 : tySz Tryz.prog 223 = some 1 ∧ tyAgg Tryz.prog 223 = some false ∧ tyBytes Tryz.prog 223 = some 4 := by decide +kernel
theorem Z223 : tyZero Tryz.prog 223 = some [.int .u32 0] := by kernel_rfl
theorem U223 : Tryz.prog.underlying 223 = some (.int .u32) := by kernel_rfl
theorem T233 : tySz Tryz.prog 233 = some 1 ∧ tyAgg Tryz.prog 233 = some false ∧ tyBytes Tryz.prog 233 = some 8 := by decide +kernel
theorem Z233 : tyZero Tryz.prog 233 = some [.pointer none] := by kernel_rfl
theorem T242 : tySz Tryz.prog 242 = some 1 ∧ tyAgg Tryz.prog 242 = some false ∧ tyBytes Tryz.prog 242 = some 8 := by decide +kernel
theorem Z242 : tyZero Tryz.prog 242 = some [.pointer none] := by kernel_rfl
theorem T247 : tySz Tryz.prog 247 = some 1 ∧ tyAgg Tryz.prog 247 = some false ∧ tyBytes Tryz.prog 247 = some 8 := by decide +kernel
theorem Z247 : tyZero Tryz.prog 247 = some [.pointer none] := by kernel_rfl
theorem T262 : tySz Tryz.prog 262 = some 5 ∧ tyAgg Tryz.prog 262 = some true ∧ tyBytes Tryz.prog 262 = some 120 ∧ fldsOk Tryz.prog 262 = true ∧ tyFld Tryz.prog 262 0 = some (0, 24) ∧ tyFld Tryz.prog 262 1 = some (1, 24) ∧ tyFld Tryz.prog 262 2 = some (2, 24) ∧ tyFld Tryz.prog 262 3 = some (3, 24) ∧ tyFld Tryz.prog 262 4 = some (4, 24) := by decide +kernel
theorem Z262 : tyZero Tryz.prog 262 = some [.slice none 0 0, .slice none 0 0, .slice none 0 0, .slice none 0 0, .slice none 0 0] := by kernel_rfl
theorem T263 : tySz Tryz.prog 263 = some 5 ∧ tyAgg Tryz.prog 263 = some true ∧ tyBytes Tryz.prog 263 = some 120 ∧ fldsOk Tryz.prog 263 = true ∧ tyFld Tryz.prog 263 0 = some (0, 24) ∧ tyFld Tryz.prog 263 1 = some (1, 24) ∧ tyFld Tryz.prog 263 2 = some (2, 24) ∧ tyFld Tryz.prog 263 3 = some (3, 24) ∧ tyFld Tryz.prog 263 4 = some (4, 24) := by decide +kernel
theorem Z263 : tyZero Tryz.prog 263 = some [.slice none 0 0, .slice none 0 0, .slice none 0 0, .slice none 0 0, .slice none 0 0] := by kernel_rfl
theorem T276 : tySz Tryz.prog 276 = some 1 ∧ tyAgg Tryz.prog 276 = some false ∧ tyBytes Tryz.prog 276 = some 8 := by decide +kernel
theorem Z276 : tyZero Tryz.prog 276 = some [.pointer none] := by kernel_rfl
theorem T283 : tySz Tryz.prog 283 = some 1 ∧ tyAgg Tryz.prog 283 = some false ∧ tyBytes Tryz.prog 283 = some 8 := by decide +kernel
theorem Z283 : tyZero Tryz.prog 283 = some [.pointer none] := by kernel_rfl
theorem T286 : tySz Tryz.prog 286 = some 1 ∧ tyAgg Tryz.prog 286 = some false ∧ tyBytes Tryz.prog 286 = some 8 := by decide +kernel
theorem Z286 : tyZero Tryz.prog 286 = some [.pointer none] := by kernel_rfl
theorem T287 : tySz Tryz.prog 287 = some 1 ∧ tyAgg Tryz.prog 287 = some false ∧ tyBytes Tryz.prog 287 = some 8 := by decide +kernel
theorem Z287 : tyZero Tryz.prog 287 = some [.pointer none] := by kernel_rfl
theorem T290 : tySz Tryz.prog 290 = some 1 ∧ tyAgg Tryz.prog 290 = some false ∧ tyBytes Tryz.prog 290 = some 24 ∧ tyElem Tryz.prog 290 = some 114 := by decide +kernel
theorem Z290 : tyZero Tryz.prog 290 = some [.slice none 0 0] := by kernel_rfl
theorem T301 : tySz Tryz.prog 301 = some 1 ∧ tyAgg Tryz.prog 301 = some false ∧ tyBytes Tryz.prog 301 = some 8 := by decide +kernel
theorem Z301 : tyZero Tryz.prog 301 = some [.pointer none] := by kernel_rfl
theorem T307 : tySz Tryz.prog 307 = some 1 ∧ tyAgg Tryz.prog 307 = some false ∧ tyBytes Tryz.prog 307 = some 8 := by decide +kernel
theorem Z307 : tyZero Tryz.prog 307 = some [.int .u64 0] := by kernel_rfl
theorem U307 : Tryz.prog.underlying 307 = some (.int .u64) := by kernel_rfl
theorem T327 : tySz Tryz.prog 327 = some 1 ∧ tyAgg Tryz.prog 327 = some false ∧ tyBytes Tryz.prog 327 = some 8 := by decide +kernel
theorem Z327 : tyZero Tryz.prog 327 = some [.pointer none] := by kernel_rfl
theorem T355 : tySz Tryz.prog 355 = some 1 ∧ tyAgg Tryz.prog 355 = some false ∧ tyBytes Tryz.prog 355 = some 8 := by decide +kernel
theorem Z355 : tyZero Tryz.prog 355 = some [.int .i64 0] := by kernel_rfl
theorem U355 : Tryz.prog.underlying 355 = some (.int .i64) := by kernel_rfl
theorem T363 : tySz Tryz.prog 363 = some 5 ∧ tyAgg Tryz.prog 363 = some true ∧ tyBytes Tryz.prog 363 = some 40 ∧ fldsOk Tryz.prog 363 = true ∧ tyFld Tryz.prog 363 0 = some (0, 3) ∧ tyFld Tryz.prog 363 1 = some (1, 3) ∧ tyFld Tryz.prog 363 2 = some (2, 3) ∧ tyFld Tryz.prog 363 3 = some (3, 3) ∧ tyFld Tryz.prog 363 4 = some (4, 3) := by decide +kernel
theorem Z363 : tyZero Tryz.prog 363 = some [.int .i64 0, .int .i64 0, .int .i64 0, .int .i64 0, .int .i64 0] := by kernel_rfl
theorem T364 : tySz Tryz.prog 364 = some 5 ∧ tyAgg Tryz.prog 364 = some true ∧ tyBytes Tryz.prog 364 = some 40 ∧ fldsOk Tryz.prog 364 = true ∧ tyFld Tryz.prog 364 0 = some (0, 3) ∧ tyFld Tryz.prog 364 1 = some (1, 3) ∧ tyFld Tryz.prog 364 2 = some (2, 3) ∧ tyFld Tryz.prog 364 3 = some (3, 3) ∧ tyFld Tryz.prog 364 4 = some (4, 3) := by decide +kernel
theorem Z364 : tyZero Tryz.prog 364 = some [.int .i64 0, .int .i64 0, .int .i64 0, .int .i64 0, .int .i64 0] := by kernel_rfl
theorem T376 : tySz Tryz.prog 376 = some 1 ∧ tyAgg Tryz.prog 376 = some false ∧ tyBytes Tryz.prog 376 = some 8 := by decide +kernel
theorem Z376 : tyZero Tryz.prog 376 = some [.int .u64 0] := by kernel_rfl
theorem U376 : Tryz.prog.underlying 376 = some (.int .u64) := by kernel_rfl
theorem T380 : tySz Tryz.prog 380 = some 1 ∧ tyAgg Tryz.prog 380 = some false ∧ tyBytes Tryz.prog 380 = some 8 := by decide +kernel
theorem Z380 : tyZero Tryz.prog 380 = some [.pointer none] := by kernel_rfl
theorem T387 : tySz Tryz.prog 387 = some 2 ∧ tyAgg Tryz.prog 387 = some true ∧ tyBytes Tryz.prog 387 = some 2 ∧ fldsOk Tryz.prog 387 = true ∧ tyFld Tryz.prog 387 0 = some (0, 5) ∧ tyFld Tryz.prog 387 1 = some (1, 5) := by decide +kernel
theorem Z387 : tyZero Tryz.prog 387 = some [.int .u8 0, .int .u8 0] := by kernel_rfl
theorem T388 : tySz Tryz.prog 388 = some 2 ∧ tyAgg Tryz.prog 388 = some true ∧ tyBytes Tryz.prog 388 = some 2 ∧ fldsOk Tryz.prog 388 = true ∧ tyFld Tryz.prog 388 0 = some (0, 5) ∧ tyFld Tryz.prog 388 1 = some (1, 5) := by decide +kernel
theorem Z388 : tyZero Tryz.prog 388 = some [.int .u8 0, .int .u8 0] := by kernel_rfl
theorem T392 : tySz Tryz.prog 392 = some 1 ∧ tyAgg Tryz.prog 392 = some false ∧ tyBytes Tryz.prog 392 = some 8 := by decide +kernel
theorem Z392 : tyZero Tryz.prog 392 = some [.pointer none] := by kernel_rfl
theorem T395 : tySz Tryz.prog 395 = some 4 ∧ tyAgg Tryz.prog 395 = some true ∧ tyBytes Tryz.prog 395 = some 40 ∧ fldsOk Tryz.prog 395 = true ∧ tyFld Tryz.prog 395 0 = some (0, 17) ∧ tyFld Tryz.prog 395 1 = some (1, 17) ∧ tyFld Tryz.prog 395 2 = some (2, 17) ∧ tyFld Tryz.prog 395 3 = some (3, 9) := by decide +kernel
theorem Z395 : tyZero Tryz.prog 395 = some [.pointer none, .pointer none, .pointer none, .string ⟨#[]⟩] := by kernel_rfl
theorem T396 : tySz Tryz.prog 396 = some 4 ∧ tyAgg Tryz.prog 396 = some true ∧ tyBytes Tryz.prog 396 = some 40 ∧ fldsOk Tryz.prog 396 = true ∧ tyFld Tryz.prog 396 0 = some (0, 17) ∧ tyFld Tryz.prog 396 1 = some (1, 17) ∧ tyFld Tryz.prog 396 2 = some (2, 17) ∧ tyFld Tryz.prog 396 3 = some (3, 9) := by decide +kernel
theorem Z396 : tyZero Tryz.prog 396 = some [.pointer none, .pointer none, .pointer none, .string ⟨#[]⟩] := by kernel_rfl
theorem T400 : tySz Tryz.prog 400 = some 1 ∧ tyAgg Tryz.prog 400 = some false ∧ tyBytes Tryz.prog 400 = some 1 := by decide +kernel
theorem Z400 : tyZero Tryz.prog 400 = some [.int .u8 0] := by kernel_rfl
theorem U400 : Tryz.prog.underlying 400 = some (.int .u8) := by kernel_rfl
theorem T401 : tySz Tryz.prog 401 = some 1 ∧ tyAgg Tryz.prog 401 = some false ∧ tyBytes Tryz.prog 401 = some 1 := by decide +kernel
theorem Z401 : tyZero Tryz.prog 401 = some [.int .u8 0] := by kernel_rfl
theorem U401 : Tryz.prog.underlying 401 = some (.int .u8) := by kernel_rfl
theorem T403 : tySz Tryz.prog 403 = some 1 ∧ tyAgg Tryz.prog 403 = some false ∧ tyBytes Tryz.prog 403 = some 4 := by decide +kernel
theorem Z403 : tyZero Tryz.prog 403 = some [.int .i32 0] := by kernel_rfl
theorem U403 : Tryz.prog.underlying 403 = some (.int .i32) := by kernel_rfl
theorem T404 : tySz Tryz.prog 404 = some 1 ∧ tyAgg Tryz.prog 404 = some false ∧ tyBytes Tryz.prog 404 = some 4 := by decide +kernel
theorem Z404 : tyZero Tryz.prog 404 = some [.int .i32 0] := by kernel_rfl
theorem U404 : Tryz.prog.underlying 404 = some (.int .i32) := by kernel_rfl
theorem T405 : tySz Tryz.prog 405 = some 11 ∧ tyAgg Tryz.prog 405 = some true ∧ tyBytes Tryz.prog 405 = some 48 ∧ fldsOk Tryz.prog 405 = true ∧ tyFld Tryz.prog 405 0 = some (0, 12) ∧ tyFld Tryz.prog 405 1 = some (1, 12) ∧ tyFld Tryz.prog 405 2 = some (2, 223) ∧ tyFld Tryz.prog 405 3 = some (3, 400) ∧ tyFld Tryz.prog 405 4 = some (4, 5) ∧ tyFld Tryz.prog 405 5 = some (5, 5) ∧ tyFld Tryz.prog 405 6 = some (6, 401) ∧ tyFld Tryz.prog 405 7 = some (7, 402) ∧ tyFld Tryz.prog 405 8 = some (8, 179) ∧ tyFld Tryz.prog 405 9 = some (9, 403) ∧ tyFld Tryz.prog 405 10 = some (10, 404) := by decide +kernel
theorem Z405 : tyZero Tryz.prog 405 = some [.int .u64 0, .int .u64 0, .int .u32 0, .int .u8 0, .int .u8 0, .int .u8 0, .int .u8 0, .nilFunc, .pointer none, .int .i32 0, .int .i32 0] := by kernel_rfl
theorem T406 : tySz Tryz.prog 406 = some 11 ∧ tyAgg Tryz.prog 406 = some true ∧ tyBytes Tryz.prog 406 = some 48 ∧ fldsOk Tryz.prog 406 = true ∧ tyFld Tryz.prog 406 0 = some (0, 12) ∧ tyFld Tryz.prog 406 1 = some (1, 12) ∧ tyFld Tryz.prog 406 2 = some (2, 223) ∧ tyFld Tryz.prog 406 3 = some (3, 400) ∧ tyFld Tryz.prog 406 4 = some (4, 5) ∧ tyFld Tryz.prog 406 5 = some (5, 5) ∧ tyFld Tryz.prog 406 6 = some (6, 401) ∧ tyFld Tryz.prog 406 7 = some (7, 402) ∧ tyFld Tryz.prog 406 8 = some (8, 179) ∧ tyFld Tryz.prog 406 9 = some (9, 403) ∧ tyFld Tryz.prog 406 10 = some (10, 404) := by decide +kernel
theorem Z406 : tyZero Tryz.prog 406 = some [.int .u64 0, .int .u64 0, .int .u32 0, .int .u8 0, .int .u8 0, .int .u8 0, .int .u8 0, .nilFunc, .pointer none, .int .i32 0, .int .i32 0] := by kernel_rfl
attribute [push_cast] T2 Z2 U2 T3 Z3 U3 T4 Z4 U4 T5 Z5 U5 T6 Z6 U6 T7 Z7 T8 Z8 T9 Z9 U9 T10 Z10 U10 T11 Z11 U11 T12 Z12 U12 T13 Z13 T14 Z14 T15 Z15 T16 Z16 T17
attribute [push_cast] Z17 T18 Z18 T19 Z19 T21 Z21 U21 T22 Z22 T24 Z24 T26 Z26 T27 Z27 T28 Z28 T32 Z32 T33 Z33 T34 Z34 T35 Z35 T36 Z36 T37 Z37 T38 Z38 T39 Z39 T40 Z40 T41 Z41 T42 Z42
attribute [push_cast] T43 Z43 T44 Z44 T45 Z45 T46 Z46 T47 Z47 T54 Z54 T60 Z60 T61 Z61 T65 Z65 T66 Z66 T86 Z86 T93 Z93 T94 Z94 T96 Z96 T97 Z97 T98 Z98 T103 Z103 T104 Z104 T106 Z106 T107 Z107
attribute [push_cast] T108 Z108 T109 Z109 T110 Z110 T113 Z113 T114 Z114 T115 Z115 T116 Z116 T117 Z117 T118 Z118 T119 Z119 T127 Z127 T132 Z132 T133 Z133 T141 Z141 T142 Z142 T150 Z150 T151 Z151 T158 Z158 T159 Z159 T174 Z174
attribute [push_cast] T175 Z175 T179 Z179 T186 Z186 T198 Z198 T199 Z199 T200 Z200 T212 Z212 U212 T223 Z223 U223 T233 Z233 T242 Z242 T247 Z247 T262 Z262 T263 Z263 T276 Z276 T283 Z283 T286 Z286 T287 Z287 T290 Z290 T301 Z301
attribute [push_cast] T307 Z307 U307 T327 Z327 T355 Z355 U355 T363 Z363 T364 Z364 T376 Z376 U376 T380 Z380 T387 Z387 T388 Z388 T392 Z392 T395 Z395 T396 Z396 T400 Z400 U400 T401 Z401 U401 T403 Z403 U403 T404 Z404 U404 T405
attribute [push_cast] Z405 T406 Z406
end Go.Proofs.YthbfmegbnnmepaaGreatDoor
