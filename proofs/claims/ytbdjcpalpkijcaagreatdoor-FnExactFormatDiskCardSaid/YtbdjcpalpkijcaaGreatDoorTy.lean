/- What the types of this seat's program are: sizes, fields, zero values: each a closed fact. -/
import Derived.Test.YtbdjcpalpkijcaaGreatDoorProg
import Derived.Test.YtbdjcpalpkijcaaGreatDoorRxIII
namespace Go.Proofs.YtbdjcpalpkijcaaGreatDoor
open Go.Rx
theorem T2 : tySz Tryz.prog 2 = some 1 ∧ tyAgg Tryz.prog 2 = some false ∧ tyBytes Tryz.prog 2 = some 8 := by decide +kernel
theorem Z2 : tyZero Tryz.prog 2 = some [.int .i64 0] := by kernel_rfl
theorem U2 : Tryz.prog.underlying 2 = some (.int .i64) := by kernel_rfl
theorem T3 : tySz Tryz.prog 3 = some 1 ∧ tyAgg Tryz.prog 3 = some false ∧ tyBytes Tryz.prog 3 = some 8 := by decide +kernel
theorem Z3 : tyZero Tryz.prog 3 = some [.int .i64 0] := by kernel_rfl
theorem U3 : Tryz.prog.underlying 3 = some (.int .i64) := by kernel_rfl
theorem T4 : tySz Tryz.prog 4 = some 1 ∧ tyAgg Tryz.prog 4 = some false ∧ tyBytes Tryz.prog 4 = some 1 := by decide +kernel
theorem Z4 : tyZero Tryz.prog 4 = some [.bool false] := by kernel_rfl
theorem U4 : Tryz.prog.underlying 4 = some .bool := by kernel_rfl
theorem T5 : tySz Tryz.prog 5 = some 1 ∧ tyAgg Tryz.prog 5 = some false ∧ tyBytes Tryz.prog 5 = some 1 := by decide +kernel
theorem Z5 : tyZero Tryz.prog 5 = some [.int .u8 0] := by kernel_rfl
theorem U5 : Tryz.prog.underlying 5 = some (.int .u8) := by kernel_rfl
theorem T6 : tySz Tryz.prog 6 = some 1 ∧ tyAgg Tryz.prog 6 = some false ∧ tyBytes Tryz.prog 6 = some 1 := by decide +kernel
theorem Z6 : tyZero Tryz.prog 6 = some [.int .u8 0] := by kernel_rfl
theorem U6 : Tryz.prog.underlying 6 = some (.int .u8) := by kernel_rfl
theorem T7 : tySz Tryz.prog 7 = some 4 ∧ tyAgg Tryz.prog 7 = some true ∧ tyBytes Tryz.prog 7 = some 24 ∧ fldsOk Tryz.prog 7 = true ∧ tyFld Tryz.prog 7 0 = some (0, 2) ∧ tyFld Tryz.prog 7 1 = some (1, 3) ∧ tyFld Tryz.prog 7 2 = some (2, 4) ∧ tyFld Tryz.prog 7 3 = some (3, 6) := by decide +kernel
theorem Z7 : tyZero Tryz.prog 7 = some [.int .i64 0, .int .i64 0, .bool false, .int .u8 0] := by kernel_rfl
theorem T8 : tySz Tryz.prog 8 = some 4 ∧ tyAgg Tryz.prog 8 = some true ∧ tyBytes Tryz.prog 8 = some 24 ∧ fldsOk Tryz.prog 8 = true ∧ tyFld Tryz.prog 8 0 = some (0, 2) ∧ tyFld Tryz.prog 8 1 = some (1, 3) ∧ tyFld Tryz.prog 8 2 = some (2, 4) ∧ tyFld Tryz.prog 8 3 = some (3, 6) := by decide +kernel
theorem Z8 : tyZero Tryz.prog 8 = some [.int .i64 0, .int .i64 0, .bool false, .int .u8 0] := by kernel_rfl
theorem T9 : tySz Tryz.prog 9 = some 1 ∧ tyAgg Tryz.prog 9 = some false ∧ tyBytes Tryz.prog 9 = some 16 := by decide +kernel
theorem Z9 : tyZero Tryz.prog 9 = some [.string ⟨#[]⟩] := by kernel_rfl
theorem U9 : Tryz.prog.underlying 9 = some .string := by kernel_rfl
theorem T10 : tySz Tryz.prog 10 = some 1 ∧ tyAgg Tryz.prog 10 = some false ∧ tyBytes Tryz.prog 10 = some 16 := by decide +kernel
theorem Z10 : tyZero Tryz.prog 10 = some [.string ⟨#[]⟩] := by kernel_rfl
theorem U10 : Tryz.prog.underlying 10 = some .string := by kernel_rfl
theorem T11 : tySz Tryz.prog 11 = some 1 ∧ tyAgg Tryz.prog 11 = some false ∧ tyBytes Tryz.prog 11 = some 16 := by decide +kernel
theorem Z11 : tyZero Tryz.prog 11 = some [.string ⟨#[]⟩] := by kernel_rfl
theorem U11 : Tryz.prog.underlying 11 = some .string := by kernel_rfl
theorem T12 : tySz Tryz.prog 12 = some 1 ∧ tyAgg Tryz.prog 12 = some false ∧ tyBytes Tryz.prog 12 = some 8 := by decide +kernel
theorem Z12 : tyZero Tryz.prog 12 = some [.int .u64 0] := by kernel_rfl
theorem U12 : Tryz.prog.underlying 12 = some (.int .u64) := by kernel_rfl
theorem T13 : tySz Tryz.prog 13 = some 2 ∧ tyAgg Tryz.prog 13 = some true ∧ tyBytes Tryz.prog 13 = some 24 ∧ fldsOk Tryz.prog 13 = true ∧ tyFld Tryz.prog 13 0 = some (0, 9) ∧ tyFld Tryz.prog 13 1 = some (1, 12) := by decide +kernel
theorem Z13 : tyZero Tryz.prog 13 = some [.string ⟨#[]⟩, .int .u64 0] := by kernel_rfl
theorem T14 : tySz Tryz.prog 14 = some 2 ∧ tyAgg Tryz.prog 14 = some true ∧ tyBytes Tryz.prog 14 = some 24 ∧ fldsOk Tryz.prog 14 = true ∧ tyFld Tryz.prog 14 0 = some (0, 9) ∧ tyFld Tryz.prog 14 1 = some (1, 12) := by decide +kernel
theorem Z14 : tyZero Tryz.prog 14 = some [.string ⟨#[]⟩, .int .u64 0] := by kernel_rfl
theorem T15 : tySz Tryz.prog 15 = some 1 ∧ tyAgg Tryz.prog 15 = some false ∧ tyBytes Tryz.prog 15 = some 8 := by decide +kernel
theorem Z15 : tyZero Tryz.prog 15 = some [.pointer none] := by kernel_rfl
theorem T16 : tySz Tryz.prog 16 = some 1 ∧ tyAgg Tryz.prog 16 = some false ∧ tyBytes Tryz.prog 16 = some 8 := by decide +kernel
theorem Z16 : tyZero Tryz.prog 16 = some [.pointer none] := by kernel_rfl
theorem T17 : tySz Tryz.prog 17 = some 1 ∧ tyAgg Tryz.prog 17 = some false ∧ tyBytes Tryz.prog 17 = some 8 := by decide +kernel
theorem Z17 : tyZero Tryz.prog 17 = some [.pointer none] := by kernel_rfl
theorem T18 : tySz Tryz.prog 18 = some 1 ∧ tyAgg Tryz.prog 18 = some true ∧ tyBytes Tryz.prog 18 = some 8 ∧ fldsOk Tryz.prog 18 = true ∧ tyFld Tryz.prog 18 0 = some (0, 17) := by decide +kernel
theorem Z18 : tyZero Tryz.prog 18 = some [.pointer none] := by kernel_rfl
theorem T19 : tySz Tryz.prog 19 = some 1 ∧ tyAgg Tryz.prog 19 = some true ∧ tyBytes Tryz.prog 19 = some 8 ∧ fldsOk Tryz.prog 19 = true ∧ tyFld Tryz.prog 19 0 = some (0, 17) := by decide +kernel
theorem Z19 : tyZero Tryz.prog 19 = some [.pointer none] := by kernel_rfl
theorem T21 : tySz Tryz.prog 21 = some 1 ∧ tyAgg Tryz.prog 21 = some false ∧ tyBytes Tryz.prog 21 = some 4 := by decide +kernel
theorem Z21 : tyZero Tryz.prog 21 = some [.int .i32 0] := by kernel_rfl
theorem U21 : Tryz.prog.underlying 21 = some (.int .i32) := by kernel_rfl
theorem T22 : tySz Tryz.prog 22 = some 1 ∧ tyAgg Tryz.prog 22 = some false ∧ tyBytes Tryz.prog 22 = some 24 ∧ tyElem Tryz.prog 22 = some 3 := by decide +kernel
theorem Z22 : tyZero Tryz.prog 22 = some [.slice none 0 0] := by kernel_rfl
theorem T23 : tySz Tryz.prog 23 = some 1 ∧ tyAgg Tryz.prog 23 = some false ∧ tyBytes Tryz.prog 23 = some 24 ∧ tyElem Tryz.prog 23 = some 47 := by decide +kernel
theorem Z23 : tyZero Tryz.prog 23 = some [.slice none 0 0] := by kernel_rfl
theorem T24 : tySz Tryz.prog 24 = some 1 ∧ tyAgg Tryz.prog 24 = some true ∧ tyBytes Tryz.prog 24 = some 24 ∧ fldsOk Tryz.prog 24 = true ∧ tyFld Tryz.prog 24 0 = some (0, 23) := by decide +kernel
theorem Z24 : tyZero Tryz.prog 24 = some [.slice none 0 0] := by kernel_rfl
theorem T25 : tySz Tryz.prog 25 = some 1 ∧ tyAgg Tryz.prog 25 = some true ∧ tyBytes Tryz.prog 25 = some 24 ∧ fldsOk Tryz.prog 25 = true ∧ tyFld Tryz.prog 25 0 = some (0, 23) := by decide +kernel
theorem Z25 : tyZero Tryz.prog 25 = some [.slice none 0 0] := by kernel_rfl
theorem T36 : tySz Tryz.prog 36 = some 1 ∧ tyAgg Tryz.prog 36 = some false ∧ tyBytes Tryz.prog 36 = some 24 ∧ tyElem Tryz.prog 36 = some 104 := by decide +kernel
theorem Z36 : tyZero Tryz.prog 36 = some [.slice none 0 0] := by kernel_rfl
theorem T37 : tySz Tryz.prog 37 = some 3 ∧ tyAgg Tryz.prog 37 = some true ∧ tyBytes Tryz.prog 37 = some 40 ∧ fldsOk Tryz.prog 37 = true ∧ tyFld Tryz.prog 37 0 = some (0, 3) ∧ tyFld Tryz.prog 37 1 = some (1, 3) ∧ tyFld Tryz.prog 37 2 = some (2, 36) := by decide +kernel
theorem Z37 : tyZero Tryz.prog 37 = some [.int .i64 0, .int .i64 0, .slice none 0 0] := by kernel_rfl
theorem T38 : tySz Tryz.prog 38 = some 3 ∧ tyAgg Tryz.prog 38 = some true ∧ tyBytes Tryz.prog 38 = some 40 ∧ fldsOk Tryz.prog 38 = true ∧ tyFld Tryz.prog 38 0 = some (0, 3) ∧ tyFld Tryz.prog 38 1 = some (1, 3) ∧ tyFld Tryz.prog 38 2 = some (2, 36) := by decide +kernel
theorem Z38 : tyZero Tryz.prog 38 = some [.int .i64 0, .int .i64 0, .slice none 0 0] := by kernel_rfl
theorem T39 : tySz Tryz.prog 39 = some 6 ∧ tyAgg Tryz.prog 39 = some true ∧ tyBytes Tryz.prog 39 = some 64 ∧ fldsOk Tryz.prog 39 = true ∧ tyFld Tryz.prog 39 0 = some (0, 3) ∧ tyFld Tryz.prog 39 1 = some (1, 3) ∧ tyFld Tryz.prog 39 2 = some (2, 3) ∧ tyFld Tryz.prog 39 3 = some (3, 38) := by decide +kernel
theorem Z39 : tyZero Tryz.prog 39 = some [.int .i64 0, .int .i64 0, .int .i64 0, .int .i64 0, .int .i64 0, .slice none 0 0] := by kernel_rfl
theorem T40 : tySz Tryz.prog 40 = some 6 ∧ tyAgg Tryz.prog 40 = some true ∧ tyBytes Tryz.prog 40 = some 64 ∧ fldsOk Tryz.prog 40 = true ∧ tyFld Tryz.prog 40 0 = some (0, 3) ∧ tyFld Tryz.prog 40 1 = some (1, 3) ∧ tyFld Tryz.prog 40 2 = some (2, 3) ∧ tyFld Tryz.prog 40 3 = some (3, 38) := by decide +kernel
theorem Z40 : tyZero Tryz.prog 40 = some [.int .i64 0, .int .i64 0, .int .i64 0, .int .i64 0, .int .i64 0, .slice none 0 0] := by kernel_rfl
theorem T43 : tySz Tryz.prog 43 = some 4 ∧ tyAgg Tryz.prog 43 = some true ∧ tyBytes Tryz.prog 43 = some 56 ∧ fldsOk Tryz.prog 43 = true ∧ tyFld Tryz.prog 43 0 = some (0, 3) ∧ tyFld Tryz.prog 43 1 = some (1, 3) ∧ tyFld Tryz.prog 43 2 = some (2, 22) ∧ tyFld Tryz.prog 43 3 = some (3, 9) := by decide +kernel
theorem Z43 : tyZero Tryz.prog 43 = some [.int .i64 0, .int .i64 0, .slice none 0 0, .string ⟨#[]⟩] := by kernel_rfl
theorem T44 : tySz Tryz.prog 44 = some 4 ∧ tyAgg Tryz.prog 44 = some true ∧ tyBytes Tryz.prog 44 = some 56 ∧ fldsOk Tryz.prog 44 = true ∧ tyFld Tryz.prog 44 0 = some (0, 3) ∧ tyFld Tryz.prog 44 1 = some (1, 3) ∧ tyFld Tryz.prog 44 2 = some (2, 22) ∧ tyFld Tryz.prog 44 3 = some (3, 9) := by decide +kernel
theorem Z44 : tyZero Tryz.prog 44 = some [.int .i64 0, .int .i64 0, .slice none 0 0, .string ⟨#[]⟩] := by kernel_rfl
theorem T46 : tySz Tryz.prog 46 = some 3 ∧ tyAgg Tryz.prog 46 = some true ∧ tyBytes Tryz.prog 46 = some 40 ∧ fldsOk Tryz.prog 46 = true ∧ tyFld Tryz.prog 46 0 = some (0, 9) ∧ tyFld Tryz.prog 46 1 = some (1, 9) ∧ tyFld Tryz.prog 46 2 = some (2, 3) := by decide +kernel
theorem Z46 : tyZero Tryz.prog 46 = some [.string ⟨#[]⟩, .string ⟨#[]⟩, .int .i64 0] := by kernel_rfl
theorem T47 : tySz Tryz.prog 47 = some 3 ∧ tyAgg Tryz.prog 47 = some true ∧ tyBytes Tryz.prog 47 = some 40 ∧ fldsOk Tryz.prog 47 = true ∧ tyFld Tryz.prog 47 0 = some (0, 9) ∧ tyFld Tryz.prog 47 1 = some (1, 9) ∧ tyFld Tryz.prog 47 2 = some (2, 3) := by decide +kernel
theorem Z47 : tyZero Tryz.prog 47 = some [.string ⟨#[]⟩, .string ⟨#[]⟩, .int .i64 0] := by kernel_rfl
theorem T49 : tySz Tryz.prog 49 = some 1 ∧ tyAgg Tryz.prog 49 = some false ∧ tyBytes Tryz.prog 49 = some 24 ∧ tyElem Tryz.prog 49 = some 75 := by decide +kernel
theorem Z49 : tyZero Tryz.prog 49 = some [.slice none 0 0] := by kernel_rfl
theorem T50 : tySz Tryz.prog 50 = some 1 ∧ tyAgg Tryz.prog 50 = some false ∧ tyBytes Tryz.prog 50 = some 24 ∧ tyElem Tryz.prog 50 = some 80 := by decide +kernel
theorem Z50 : tyZero Tryz.prog 50 = some [.slice none 0 0] := by kernel_rfl
theorem T51 : tySz Tryz.prog 51 = some 1 ∧ tyAgg Tryz.prog 51 = some false ∧ tyBytes Tryz.prog 51 = some 24 ∧ tyElem Tryz.prog 51 = some 87 := by decide +kernel
theorem Z51 : tyZero Tryz.prog 51 = some [.slice none 0 0] := by kernel_rfl
theorem T52 : tySz Tryz.prog 52 = some 5 ∧ tyAgg Tryz.prog 52 = some true ∧ tyBytes Tryz.prog 52 = some 88 ∧ fldsOk Tryz.prog 52 = true ∧ tyFld Tryz.prog 52 0 = some (0, 49) ∧ tyFld Tryz.prog 52 1 = some (1, 50) ∧ tyFld Tryz.prog 52 2 = some (2, 51) ∧ tyFld Tryz.prog 52 3 = some (3, 3) ∧ tyFld Tryz.prog 52 4 = some (4, 3) := by decide +kernel
theorem Z52 : tyZero Tryz.prog 52 = some [.slice none 0 0, .slice none 0 0, .slice none 0 0, .int .i64 0, .int .i64 0] := by kernel_rfl
theorem T53 : tySz Tryz.prog 53 = some 5 ∧ tyAgg Tryz.prog 53 = some true ∧ tyBytes Tryz.prog 53 = some 88 ∧ fldsOk Tryz.prog 53 = true ∧ tyFld Tryz.prog 53 0 = some (0, 49) ∧ tyFld Tryz.prog 53 1 = some (1, 50) ∧ tyFld Tryz.prog 53 2 = some (2, 51) ∧ tyFld Tryz.prog 53 3 = some (3, 3) ∧ tyFld Tryz.prog 53 4 = some (4, 3) := by decide +kernel
theorem Z53 : tyZero Tryz.prog 53 = some [.slice none 0 0, .slice none 0 0, .slice none 0 0, .int .i64 0, .int .i64 0] := by kernel_rfl
theorem T66 : tySz Tryz.prog 66 = some 1 ∧ tyAgg Tryz.prog 66 = some false ∧ tyBytes Tryz.prog 66 = some 8 := by decide +kernel
theorem Z66 : tyZero Tryz.prog 66 = some [.pointer none] := by kernel_rfl
theorem T67 : tySz Tryz.prog 67 = some 1 ∧ tyAgg Tryz.prog 67 = some false ∧ tyBytes Tryz.prog 67 = some 24 ∧ tyElem Tryz.prog 67 = some 5 := by decide +kernel
theorem Z67 : tyZero Tryz.prog 67 = some [.slice none 0 0] := by kernel_rfl
theorem T68 : tySz Tryz.prog 68 = some 2 ∧ tyAgg Tryz.prog 68 = some true ∧ tyBytes Tryz.prog 68 = some 32 ∧ fldsOk Tryz.prog 68 = true ∧ tyFld Tryz.prog 68 0 = some (0, 66) ∧ tyFld Tryz.prog 68 1 = some (1, 67) := by decide +kernel
theorem Z68 : tyZero Tryz.prog 68 = some [.pointer none, .slice none 0 0] := by kernel_rfl
theorem T69 : tySz Tryz.prog 69 = some 2 ∧ tyAgg Tryz.prog 69 = some true ∧ tyBytes Tryz.prog 69 = some 32 ∧ fldsOk Tryz.prog 69 = true ∧ tyFld Tryz.prog 69 0 = some (0, 66) ∧ tyFld Tryz.prog 69 1 = some (1, 67) := by decide +kernel
theorem Z69 : tyZero Tryz.prog 69 = some [.pointer none, .slice none 0 0] := by kernel_rfl
theorem T74 : tySz Tryz.prog 74 = some 3 ∧ tyAgg Tryz.prog 74 = some true ∧ tyBytes Tryz.prog 74 = some 32 ∧ fldsOk Tryz.prog 74 = true ∧ tyFld Tryz.prog 74 0 = some (0, 3) ∧ tyFld Tryz.prog 74 1 = some (1, 3) ∧ tyFld Tryz.prog 74 2 = some (2, 9) := by decide +kernel
theorem Z74 : tyZero Tryz.prog 74 = some [.int .i64 0, .int .i64 0, .string ⟨#[]⟩] := by kernel_rfl
theorem T75 : tySz Tryz.prog 75 = some 3 ∧ tyAgg Tryz.prog 75 = some true ∧ tyBytes Tryz.prog 75 = some 32 ∧ fldsOk Tryz.prog 75 = true ∧ tyFld Tryz.prog 75 0 = some (0, 3) ∧ tyFld Tryz.prog 75 1 = some (1, 3) ∧ tyFld Tryz.prog 75 2 = some (2, 9) := by decide +kernel
theorem Z75 : tyZero Tryz.prog 75 = some [.int .i64 0, .int .i64 0, .string ⟨#[]⟩] := by kernel_rfl
theorem T76 : tySz Tryz.prog 76 = some 1 ∧ tyAgg Tryz.prog 76 = some false ∧ tyBytes Tryz.prog 76 = some 24 ∧ tyElem Tryz.prog 76 = some 112 := by decide +kernel
theorem Z76 : tyZero Tryz.prog 76 = some [.slice none 0 0] := by kernel_rfl
theorem T77 : tySz Tryz.prog 77 = some 6 ∧ tyAgg Tryz.prog 77 = some true ∧ tyBytes Tryz.prog 77 = some 80 ∧ fldsOk Tryz.prog 77 = true ∧ tyFld Tryz.prog 77 0 = some (0, 9) ∧ tyFld Tryz.prog 77 1 = some (1, 9) ∧ tyFld Tryz.prog 77 2 = some (2, 3) ∧ tyFld Tryz.prog 77 3 = some (3, 3) ∧ tyFld Tryz.prog 77 4 = some (4, 4) ∧ tyFld Tryz.prog 77 5 = some (5, 76) := by decide +kernel
theorem Z77 : tyZero Tryz.prog 77 = some [.string ⟨#[]⟩, .string ⟨#[]⟩, .int .i64 0, .int .i64 0, .bool false, .slice none 0 0] := by kernel_rfl
theorem T78 : tySz Tryz.prog 78 = some 6 ∧ tyAgg Tryz.prog 78 = some true ∧ tyBytes Tryz.prog 78 = some 80 ∧ fldsOk Tryz.prog 78 = true ∧ tyFld Tryz.prog 78 0 = some (0, 9) ∧ tyFld Tryz.prog 78 1 = some (1, 9) ∧ tyFld Tryz.prog 78 2 = some (2, 3) ∧ tyFld Tryz.prog 78 3 = some (3, 3) ∧ tyFld Tryz.prog 78 4 = some (4, 4) ∧ tyFld Tryz.prog 78 5 = some (5, 76) := by decide +kernel
theorem Z78 : tyZero Tryz.prog 78 = some [.string ⟨#[]⟩, .string ⟨#[]⟩, .int .i64 0, .int .i64 0, .bool false, .slice none 0 0] := by kernel_rfl
theorem T79 : tySz Tryz.prog 79 = some 9 ∧ tyAgg Tryz.prog 79 = some true ∧ tyBytes Tryz.prog 79 = some 104 ∧ fldsOk Tryz.prog 79 = true ∧ tyFld Tryz.prog 79 0 = some (0, 78) ∧ tyFld Tryz.prog 79 1 = some (6, 4) ∧ tyFld Tryz.prog 79 2 = some (7, 3) ∧ tyFld Tryz.prog 79 3 = some (8, 3) := by decide +kernel
theorem Z79 : tyZero Tryz.prog 79 = some [.string ⟨#[]⟩, .string ⟨#[]⟩, .int .i64 0, .int .i64 0, .bool false, .slice none 0 0, .bool false, .int .i64 0, .int .i64 0] := by kernel_rfl
theorem T80 : tySz Tryz.prog 80 = some 9 ∧ tyAgg Tryz.prog 80 = some true ∧ tyBytes Tryz.prog 80 = some 104 ∧ fldsOk Tryz.prog 80 = true ∧ tyFld Tryz.prog 80 0 = some (0, 78) ∧ tyFld Tryz.prog 80 1 = some (6, 4) ∧ tyFld Tryz.prog 80 2 = some (7, 3) ∧ tyFld Tryz.prog 80 3 = some (8, 3) := by decide +kernel
theorem Z80 : tyZero Tryz.prog 80 = some [.string ⟨#[]⟩, .string ⟨#[]⟩, .int .i64 0, .int .i64 0, .bool false, .slice none 0 0, .bool false, .int .i64 0, .int .i64 0] := by kernel_rfl
theorem T83 : tySz Tryz.prog 83 = some 2 ∧ tyAgg Tryz.prog 83 = some true ∧ tyBytes Tryz.prog 83 = some 16 ∧ fldsOk Tryz.prog 83 = true ∧ tyFld Tryz.prog 83 0 = some (0, 3) ∧ tyFld Tryz.prog 83 1 = some (1, 3) := by decide +kernel
theorem Z83 : tyZero Tryz.prog 83 = some [.int .i64 0, .int .i64 0] := by kernel_rfl
theorem T84 : tySz Tryz.prog 84 = some 2 ∧ tyAgg Tryz.prog 84 = some true ∧ tyBytes Tryz.prog 84 = some 16 ∧ fldsOk Tryz.prog 84 = true ∧ tyFld Tryz.prog 84 0 = some (0, 3) ∧ tyFld Tryz.prog 84 1 = some (1, 3) := by decide +kernel
theorem Z84 : tyZero Tryz.prog 84 = some [.int .i64 0, .int .i64 0] := by kernel_rfl
theorem T85 : tySz Tryz.prog 85 = some 1 ∧ tyAgg Tryz.prog 85 = some false ∧ tyBytes Tryz.prog 85 = some 24 ∧ tyElem Tryz.prog 85 = some 89 := by decide +kernel
theorem Z85 : tyZero Tryz.prog 85 = some [.slice none 0 0] := by kernel_rfl
theorem T86 : tySz Tryz.prog 86 = some 5 ∧ tyAgg Tryz.prog 86 = some true ∧ tyBytes Tryz.prog 86 = some 64 ∧ fldsOk Tryz.prog 86 = true ∧ tyFld Tryz.prog 86 0 = some (0, 9) ∧ tyFld Tryz.prog 86 1 = some (1, 84) ∧ tyFld Tryz.prog 86 2 = some (3, 3) ∧ tyFld Tryz.prog 86 3 = some (4, 85) := by decide +kernel
theorem Z86 : tyZero Tryz.prog 86 = some [.string ⟨#[]⟩, .int .i64 0, .int .i64 0, .int .i64 0, .slice none 0 0] := by kernel_rfl
theorem T87 : tySz Tryz.prog 87 = some 5 ∧ tyAgg Tryz.prog 87 = some true ∧ tyBytes Tryz.prog 87 = some 64 ∧ fldsOk Tryz.prog 87 = true ∧ tyFld Tryz.prog 87 0 = some (0, 9) ∧ tyFld Tryz.prog 87 1 = some (1, 84) ∧ tyFld Tryz.prog 87 2 = some (3, 3) ∧ tyFld Tryz.prog 87 3 = some (4, 85) := by decide +kernel
theorem Z87 : tyZero Tryz.prog 87 = some [.string ⟨#[]⟩, .int .i64 0, .int .i64 0, .int .i64 0, .slice none 0 0] := by kernel_rfl
theorem T88 : tySz Tryz.prog 88 = some 4 ∧ tyAgg Tryz.prog 88 = some true ∧ tyBytes Tryz.prog 88 = some 32 ∧ fldsOk Tryz.prog 88 = true ∧ tyFld Tryz.prog 88 0 = some (0, 3) ∧ tyFld Tryz.prog 88 1 = some (1, 3) ∧ tyFld Tryz.prog 88 2 = some (2, 3) ∧ tyFld Tryz.prog 88 3 = some (3, 3) := by decide +kernel
theorem Z88 : tyZero Tryz.prog 88 = some [.int .i64 0, .int .i64 0, .int .i64 0, .int .i64 0] := by kernel_rfl
theorem T89 : tySz Tryz.prog 89 = some 4 ∧ tyAgg Tryz.prog 89 = some true ∧ tyBytes Tryz.prog 89 = some 32 ∧ fldsOk Tryz.prog 89 = true ∧ tyFld Tryz.prog 89 0 = some (0, 3) ∧ tyFld Tryz.prog 89 1 = some (1, 3) ∧ tyFld Tryz.prog 89 2 = some (2, 3) ∧ tyFld Tryz.prog 89 3 = some (3, 3) := by decide +kernel
theorem Z89 : tyZero Tryz.prog 89 = some [.int .i64 0, .int .i64 0, .int .i64 0, .int .i64 0] := by kernel_rfl
theorem T93 : tySz Tryz.prog 93 = some 1 ∧ tyAgg Tryz.prog 93 = some false ∧ tyBytes Tryz.prog 93 = some 8 := by decide +kernel
theorem Z93 : tyZero Tryz.prog 93 = some [.pointer none] := by kernel_rfl
theorem T100 : tySz Tryz.prog 100 = some 1 ∧ tyAgg Tryz.prog 100 = some false ∧ tyBytes Tryz.prog 100 = some 4 := by decide +kernel
theorem Z100 : tyZero Tryz.prog 100 = some [.int .u32 0] := by kernel_rfl
theorem U100 : Tryz.prog.underlying 100 = some (.int .u32) := by kernel_rfl
theorem T103 : tySz Tryz.prog 103 = some 3 ∧ tyAgg Tryz.prog 103 = some true ∧ tyBytes Tryz.prog 103 = some 32 ∧ fldsOk Tryz.prog 103 = true ∧ tyFld Tryz.prog 103 0 = some (0, 3) ∧ tyFld Tryz.prog 103 1 = some (1, 3) ∧ tyFld Tryz.prog 103 2 = some (2, 9) := by decide +kernel
theorem Z103 : tyZero Tryz.prog 103 = some [.int .i64 0, .int .i64 0, .string ⟨#[]⟩] := by kernel_rfl
theorem T104 : tySz Tryz.prog 104 = some 3 ∧ tyAgg Tryz.prog 104 = some true ∧ tyBytes Tryz.prog 104 = some 32 ∧ fldsOk Tryz.prog 104 = true ∧ tyFld Tryz.prog 104 0 = some (0, 3) ∧ tyFld Tryz.prog 104 1 = some (1, 3) ∧ tyFld Tryz.prog 104 2 = some (2, 9) := by decide +kernel
theorem Z104 : tyZero Tryz.prog 104 = some [.int .i64 0, .int .i64 0, .string ⟨#[]⟩] := by kernel_rfl
theorem T110 : tySz Tryz.prog 110 = some 1 ∧ tyAgg Tryz.prog 110 = some false ∧ tyBytes Tryz.prog 110 = some 24 ∧ tyElem Tryz.prog 110 = some 9 := by decide +kernel
theorem Z110 : tyZero Tryz.prog 110 = some [.slice none 0 0] := by kernel_rfl
theorem T111 : tySz Tryz.prog 111 = some 5 ∧ tyAgg Tryz.prog 111 = some true ∧ tyBytes Tryz.prog 111 = some 72 ∧ fldsOk Tryz.prog 111 = true ∧ tyFld Tryz.prog 111 0 = some (0, 9) ∧ tyFld Tryz.prog 111 1 = some (1, 9) ∧ tyFld Tryz.prog 111 2 = some (2, 3) ∧ tyFld Tryz.prog 111 3 = some (3, 4) ∧ tyFld Tryz.prog 111 4 = some (4, 110) := by decide +kernel
theorem Z111 : tyZero Tryz.prog 111 = some [.string ⟨#[]⟩, .string ⟨#[]⟩, .int .i64 0, .bool false, .slice none 0 0] := by kernel_rfl
theorem T112 : tySz Tryz.prog 112 = some 5 ∧ tyAgg Tryz.prog 112 = some true ∧ tyBytes Tryz.prog 112 = some 72 ∧ fldsOk Tryz.prog 112 = true ∧ tyFld Tryz.prog 112 0 = some (0, 9) ∧ tyFld Tryz.prog 112 1 = some (1, 9) ∧ tyFld Tryz.prog 112 2 = some (2, 3) ∧ tyFld Tryz.prog 112 3 = some (3, 4) ∧ tyFld Tryz.prog 112 4 = some (4, 110) := by decide +kernel
theorem Z112 : tyZero Tryz.prog 112 = some [.string ⟨#[]⟩, .string ⟨#[]⟩, .int .i64 0, .bool false, .slice none 0 0] := by kernel_rfl
theorem T116 : tySz Tryz.prog 116 = some 1 ∧ tyAgg Tryz.prog 116 = some false ∧ tyBytes Tryz.prog 116 = some 8 := by decide +kernel
theorem Z116 : tyZero Tryz.prog 116 = some [.pointer none] := by kernel_rfl
theorem T120 : tySz Tryz.prog 120 = some 1 ∧ tyAgg Tryz.prog 120 = some false ∧ tyBytes Tryz.prog 120 = some 8 := by decide +kernel
theorem Z120 : tyZero Tryz.prog 120 = some [.int .u64 0] := by kernel_rfl
theorem U120 : Tryz.prog.underlying 120 = some (.int .u64) := by kernel_rfl
theorem T138 : tySz Tryz.prog 138 = some 5 ∧ tyAgg Tryz.prog 138 = some true ∧ tyBytes Tryz.prog 138 = some 120 ∧ fldsOk Tryz.prog 138 = true ∧ tyFld Tryz.prog 138 0 = some (0, 22) ∧ tyFld Tryz.prog 138 1 = some (1, 22) ∧ tyFld Tryz.prog 138 2 = some (2, 22) ∧ tyFld Tryz.prog 138 3 = some (3, 22) ∧ tyFld Tryz.prog 138 4 = some (4, 22) := by decide +kernel
theorem Z138 : tyZero Tryz.prog 138 = some [.slice none 0 0, .slice none 0 0, .slice none 0 0, .slice none 0 0, .slice none 0 0] := by kernel_rfl
theorem T139 : tySz Tryz.prog 139 = some 5 ∧ tyAgg Tryz.prog 139 = some true ∧ tyBytes Tryz.prog 139 = some 120 ∧ fldsOk Tryz.prog 139 = true ∧ tyFld Tryz.prog 139 0 = some (0, 22) ∧ tyFld Tryz.prog 139 1 = some (1, 22) ∧ tyFld Tryz.prog 139 2 = some (2, 22) ∧ tyFld Tryz.prog 139 3 = some (3, 22) ∧ tyFld Tryz.prog 139 4 = some (4, 22) := by decide +kernel
theorem Z139 : tyZero Tryz.prog 139 = some [.slice none 0 0, .slice none 0 0, .slice none 0 0, .slice none 0 0, .slice none 0 0] := by kernel_rfl
theorem T161 : tySz Tryz.prog 161 = some 1 ∧ tyAgg Tryz.prog 161 = some false ∧ tyBytes Tryz.prog 161 = some 24 ∧ tyElem Tryz.prog 161 = some 4 := by decide +kernel
theorem Z161 : tyZero Tryz.prog 161 = some [.slice none 0 0] := by kernel_rfl
theorem T168 : tySz Tryz.prog 168 = some 1 ∧ tyAgg Tryz.prog 168 = some false ∧ tyBytes Tryz.prog 168 = some 8 := by decide +kernel
theorem Z168 : tyZero Tryz.prog 168 = some [.pointer none] := by kernel_rfl
theorem T172 : tySz Tryz.prog 172 = some 1 ∧ tyAgg Tryz.prog 172 = some false ∧ tyBytes Tryz.prog 172 = some 8 := by decide +kernel
theorem Z172 : tyZero Tryz.prog 172 = some [.pointer none] := by kernel_rfl
theorem T175 : tySz Tryz.prog 175 = some 1 ∧ tyAgg Tryz.prog 175 = some false ∧ tyBytes Tryz.prog 175 = some 8 := by decide +kernel
theorem Z175 : tyZero Tryz.prog 175 = some [.int .u64 0] := by kernel_rfl
theorem U175 : Tryz.prog.underlying 175 = some (.int .u64) := by kernel_rfl
theorem T185 : tySz Tryz.prog 185 = some 1 ∧ tyAgg Tryz.prog 185 = some false ∧ tyBytes Tryz.prog 185 = some 8 := by decide +kernel
theorem Z185 : tyZero Tryz.prog 185 = some [.pointer none] := by kernel_rfl
theorem T203 : tySz Tryz.prog 203 = some 1 ∧ tyAgg Tryz.prog 203 = some false ∧ tyBytes Tryz.prog 203 = some 8 := by decide +kernel
theorem Z203 : tyZero Tryz.prog 203 = some [.int .i64 0] := by kernel_rfl
theorem U203 : Tryz.prog.underlying 203 = some (.int .i64) := by kernel_rfl
theorem T215 : tySz Tryz.prog 215 = some 1 ∧ tyAgg Tryz.prog 215 = some false ∧ tyBytes Tryz.prog 215 = some 8 := by decide +kernel
theorem Z215 : tyZero Tryz.prog 215 = some [.int .u64 0] := by kernel_rfl
theorem U215 : Tryz.prog.underlying 215 = some (.int .u64) := by kernel_rfl
theorem T219 : tySz Tryz.prog 219 = some 1 ∧ tyAgg Tryz.prog 219 = some false ∧ tyBytes Tryz.prog 219 = some 8 := by decide +kernel
theorem Z219 : tyZero Tryz.prog 219 = some [.pointer none] := by kernel_rfl
theorem T221 : tySz Tryz.prog 221 = some 1 ∧ tyAgg Tryz.prog 221 = some false ∧ tyBytes Tryz.prog 221 = some 8 := by decide +kernel
theorem Z221 : tyZero Tryz.prog 221 = some [.pointer none] := by kernel_rfl
theorem T224 : tySz Tryz.prog 224 = some 2 ∧ tyAgg Tryz.prog 224 = some true ∧ tyBytes Tryz.prog 224 = some 2 ∧ fldsOk Tryz.prog 224 = true ∧ tyFld Tryz.prog 224 0 = some (0, 5) ∧ tyFld Tryz.prog 224 1 = some (1, 5) := by decide +kernel
theorem Z224 : tyZero Tryz.prog 224 = some [.int .u8 0, .int .u8 0] := by kernel_rfl
theorem T225 : tySz Tryz.prog 225 = some 2 ∧ tyAgg Tryz.prog 225 = some true ∧ tyBytes Tryz.prog 225 = some 2 ∧ fldsOk Tryz.prog 225 = true ∧ tyFld Tryz.prog 225 0 = some (0, 5) ∧ tyFld Tryz.prog 225 1 = some (1, 5) := by decide +kernel
theorem Z225 : tyZero Tryz.prog 225 = some [.int .u8 0, .int .u8 0] := by kernel_rfl
theorem T229 : tySz Tryz.prog 229 = some 4 ∧ tyAgg Tryz.prog 229 = some true ∧ tyBytes Tryz.prog 229 = some 40 ∧ fldsOk Tryz.prog 229 = true ∧ tyFld Tryz.prog 229 0 = some (0, 17) ∧ tyFld Tryz.prog 229 1 = some (1, 17) ∧ tyFld Tryz.prog 229 2 = some (2, 17) ∧ tyFld Tryz.prog 229 3 = some (3, 9) := by decide +kernel
theorem Z229 : tyZero Tryz.prog 229 = some [.pointer none, .pointer none, .pointer none, .string ⟨#[]⟩] := by kernel_rfl
theorem T230 : tySz Tryz.prog 230 = some 4 ∧ tyAgg Tryz.prog 230 = some true ∧ tyBytes Tryz.prog 230 = some 40 ∧ fldsOk Tryz.prog 230 = true ∧ tyFld Tryz.prog 230 0 = some (0, 17) ∧ tyFld Tryz.prog 230 1 = some (1, 17) ∧ tyFld Tryz.prog 230 2 = some (2, 17) ∧ tyFld Tryz.prog 230 3 = some (3, 9) := by decide +kernel
theorem Z230 : tyZero Tryz.prog 230 = some [.pointer none, .pointer none, .pointer none, .string ⟨#[]⟩] := by kernel_rfl
theorem T234 : tySz Tryz.prog 234 = some 1 ∧ tyAgg Tryz.prog 234 = some false ∧ tyBytes Tryz.prog 234 = some 1 := by decide +kernel
theorem Z234 : tyZero Tryz.prog 234 = some [.int .u8 0] := by kernel_rfl
theorem U234 : Tryz.prog.underlying 234 = some (.int .u8) := by kernel_rfl
theorem T235 : tySz Tryz.prog 235 = some 1 ∧ tyAgg Tryz.prog 235 = some false ∧ tyBytes Tryz.prog 235 = some 1 := by decide +kernel
theorem Z235 : tyZero Tryz.prog 235 = some [.int .u8 0] := by kernel_rfl
theorem U235 : Tryz.prog.underlying 235 = some (.int .u8) := by kernel_rfl
theorem T237 : tySz Tryz.prog 237 = some 1 ∧ tyAgg Tryz.prog 237 = some false ∧ tyBytes Tryz.prog 237 = some 4 := by decide +kernel
theorem Z237 : tyZero Tryz.prog 237 = some [.int .i32 0] := by kernel_rfl
theorem U237 : Tryz.prog.underlying 237 = some (.int .i32) := by kernel_rfl
theorem T238 : tySz Tryz.prog 238 = some 1 ∧ tyAgg Tryz.prog 238 = some false ∧ tyBytes Tryz.prog 238 = some 4 := by decide +kernel
theorem Z238 : tyZero Tryz.prog 238 = some [.int .i32 0] := by kernel_rfl
theorem U238 : Tryz.prog.underlying 238 = some (.int .i32) := by kernel_rfl
theorem T239 : tySz Tryz.prog 239 = some 11 ∧ tyAgg Tryz.prog 239 = some true ∧ tyBytes Tryz.prog 239 = some 48 ∧ fldsOk Tryz.prog 239 = true ∧ tyFld Tryz.prog 239 0 = some (0, 12) ∧ tyFld Tryz.prog 239 1 = some (1, 12) ∧ tyFld Tryz.prog 239 2 = some (2, 100) ∧ tyFld Tryz.prog 239 3 = some (3, 234) ∧ tyFld Tryz.prog 239 4 = some (4, 5) ∧ tyFld Tryz.prog 239 5 = some (5, 5) ∧ tyFld Tryz.prog 239 6 = some (6, 235) ∧ tyFld Tryz.prog 239 7 = some (7, 236) ∧ tyFld Tryz.prog 239 8 = some (8, 116) ∧ tyFld Tryz.prog 239 9 = some (9, 237) ∧ tyFld Tryz.prog 239 10 = some (10, 238) := by decide +kernel
theorem Z239 : tyZero Tryz.prog 239 = some [.int .u64 0, .int .u64 0, .int .u32 0, .int .u8 0, .int .u8 0, .int .u8 0, .int .u8 0, .nilFunc, .pointer none, .int .i32 0, .int .i32 0] := by kernel_rfl
theorem T240 : tySz Tryz.prog 240 = some 11 ∧ tyAgg Tryz.prog 240 = some true ∧ tyBytes Tryz.prog 240 = some 48 ∧ fldsOk Tryz.prog 240 = true ∧ tyFld Tryz.prog 240 0 = some (0, 12) ∧ tyFld Tryz.prog 240 1 = some (1, 12) ∧ tyFld Tryz.prog 240 2 = some (2, 100) ∧ tyFld Tryz.prog 240 3 = some (3, 234) ∧ tyFld Tryz.prog 240 4 = some (4, 5) ∧ tyFld Tryz.prog 240 5 = some (5, 5) ∧ tyFld Tryz.prog 240 6 = some (6, 235) ∧ tyFld Tryz.prog 240 7 = some (7, 236) ∧ tyFld Tryz.prog 240 8 = some (8, 116) ∧ tyFld Tryz.prog 240 9 = some (9, 237) ∧ tyFld Tryz.prog 240 10 = some (10, 238) := by decide +kernel
theorem Z240 : tyZero Tryz.prog 240 = some [.int .u64 0, .int .u64 0, .int .u32 0, .int .u8 0, .int .u8 0, .int .u8 0, .int .u8 0, .nilFunc, .pointer none, .int .i32 0, .int .i32 0] := by kernel_rfl
attribute [push_cast] T2 Z2 U2 T3 Z3 U3 T4 Z4 U4 T5 Z5 U5 T6 Z6 U6 T7 Z7 T8 Z8 T9 Z9 U9 T10 Z10 U10 T11 Z11 U11 T12 Z12 U12 T13 Z13 T14 Z14 T15 Z15 T16 Z16 T17
attribute [push_cast] Z17 T18 Z18 T19 Z19 T21 Z21 U21 T22 Z22 T23 Z23 T24 Z24 T25 Z25 T36 Z36 T37 Z37 T38 Z38 T39 Z39 T40 Z40 T43 Z43 T44 Z44 T46 Z46 T47 Z47 T49 Z49 T50 Z50 T51 Z51
attribute [push_cast] T52 Z52 T53 Z53 T66 Z66 T67 Z67 T68 Z68 T69 Z69 T74 Z74 T75 Z75 T76 Z76 T77 Z77 T78 Z78 T79 Z79 T80 Z80 T83 Z83 T84 Z84 T85 Z85 T86 Z86 T87 Z87 T88 Z88 T89 Z89
attribute [push_cast] T93 Z93 T100 Z100 U100 T103 Z103 T104 Z104 T110 Z110 T111 Z111 T112 Z112 T116 Z116 T120 Z120 U120 T138 Z138 T139 Z139 T161 Z161 T168 Z168 T172 Z172 T175 Z175 U175 T185 Z185 T203 Z203 U203 T215 Z215
attribute [push_cast] U215 T219 Z219 T221 Z221 T224 Z224 T225 Z225 T229 Z229 T230 Z230 T234 Z234 U234 T235 Z235 U235 T237 Z237 U237 T238 Z238 U238 T239 Z239 T240 Z240
end Go.Proofs.YtbdjcpalpkijcaaGreatDoor
