/- What the types of this seat's program are: sizes, fields, zero values: each a closed fact. -/
import Derived.Test.YtadbfhgeekpdgaaProg
import Derived.Test.YtadbfhgeekpdgaaRxIII
namespace Go.Proofs.Ytadbfhgeekpdgaa
open Go.Rx
theorem T2 : tySz Try.prog 2 = some 1 ∧ tyAgg Try.prog 2 = some false ∧ tyBytes Try.prog 2 = some 8 := by decide +kernel
theorem Z2 : tyZero Try.prog 2 = some [.int .i64 0] := by kernel_rfl
theorem U2 : Try.prog.underlying 2 = some (.int .i64) := by kernel_rfl
theorem T3 : tySz Try.prog 3 = some 1 ∧ tyAgg Try.prog 3 = some false ∧ tyBytes Try.prog 3 = some 8 := by decide +kernel
theorem Z3 : tyZero Try.prog 3 = some [.int .i64 0] := by kernel_rfl
theorem U3 : Try.prog.underlying 3 = some (.int .i64) := by kernel_rfl
theorem T4 : tySz Try.prog 4 = some 1 ∧ tyAgg Try.prog 4 = some false ∧ tyBytes Try.prog 4 = some 1 := by decide +kernel
theorem Z4 : tyZero Try.prog 4 = some [.bool false] := by kernel_rfl
theorem U4 : Try.prog.underlying 4 = some .bool := by kernel_rfl
theorem T5 : tySz Try.prog 5 = some 1 ∧ tyAgg Try.prog 5 = some false ∧ tyBytes Try.prog 5 = some 1 := by decide +kernel
theorem Z5 : tyZero Try.prog 5 = some [.int .u8 0] := by kernel_rfl
theorem U5 : Try.prog.underlying 5 = some (.int .u8) := by kernel_rfl
theorem T6 : tySz Try.prog 6 = some 1 ∧ tyAgg Try.prog 6 = some false ∧ tyBytes Try.prog 6 = some 1 := by decide +kernel
theorem Z6 : tyZero Try.prog 6 = some [.int .u8 0] := by kernel_rfl
theorem U6 : Try.prog.underlying 6 = some (.int .u8) := by kernel_rfl
theorem T7 : tySz Try.prog 7 = some 4 ∧ tyAgg Try.prog 7 = some true ∧ tyBytes Try.prog 7 = some 24 ∧ fldsOk Try.prog 7 = true ∧ tyFld Try.prog 7 0 = some (0, 2) ∧ tyFld Try.prog 7 1 = some (1, 3) ∧ tyFld Try.prog 7 2 = some (2, 4) ∧ tyFld Try.prog 7 3 = some (3, 6) := by decide +kernel
theorem Z7 : tyZero Try.prog 7 = some [.int .i64 0, .int .i64 0, .bool false, .int .u8 0] := by kernel_rfl
theorem T8 : tySz Try.prog 8 = some 4 ∧ tyAgg Try.prog 8 = some true ∧ tyBytes Try.prog 8 = some 24 ∧ fldsOk Try.prog 8 = true ∧ tyFld Try.prog 8 0 = some (0, 2) ∧ tyFld Try.prog 8 1 = some (1, 3) ∧ tyFld Try.prog 8 2 = some (2, 4) ∧ tyFld Try.prog 8 3 = some (3, 6) := by decide +kernel
theorem Z8 : tyZero Try.prog 8 = some [.int .i64 0, .int .i64 0, .bool false, .int .u8 0] := by kernel_rfl
theorem T9 : tySz Try.prog 9 = some 1 ∧ tyAgg Try.prog 9 = some false ∧ tyBytes Try.prog 9 = some 16 := by decide +kernel
theorem Z9 : tyZero Try.prog 9 = some [.string ⟨#[]⟩] := by kernel_rfl
theorem U9 : Try.prog.underlying 9 = some .string := by kernel_rfl
theorem T10 : tySz Try.prog 10 = some 1 ∧ tyAgg Try.prog 10 = some false ∧ tyBytes Try.prog 10 = some 16 := by decide +kernel
theorem Z10 : tyZero Try.prog 10 = some [.string ⟨#[]⟩] := by kernel_rfl
theorem U10 : Try.prog.underlying 10 = some .string := by kernel_rfl
theorem T11 : tySz Try.prog 11 = some 1 ∧ tyAgg Try.prog 11 = some false ∧ tyBytes Try.prog 11 = some 16 := by decide +kernel
theorem Z11 : tyZero Try.prog 11 = some [.string ⟨#[]⟩] := by kernel_rfl
theorem U11 : Try.prog.underlying 11 = some .string := by kernel_rfl
theorem T12 : tySz Try.prog 12 = some 1 ∧ tyAgg Try.prog 12 = some false ∧ tyBytes Try.prog 12 = some 8 := by decide +kernel
theorem Z12 : tyZero Try.prog 12 = some [.int .u64 0] := by kernel_rfl
theorem U12 : Try.prog.underlying 12 = some (.int .u64) := by kernel_rfl
theorem T13 : tySz Try.prog 13 = some 2 ∧ tyAgg Try.prog 13 = some true ∧ tyBytes Try.prog 13 = some 24 ∧ fldsOk Try.prog 13 = true ∧ tyFld Try.prog 13 0 = some (0, 9) ∧ tyFld Try.prog 13 1 = some (1, 12) := by decide +kernel
theorem Z13 : tyZero Try.prog 13 = some [.string ⟨#[]⟩, .int .u64 0] := by kernel_rfl
theorem T14 : tySz Try.prog 14 = some 2 ∧ tyAgg Try.prog 14 = some true ∧ tyBytes Try.prog 14 = some 24 ∧ fldsOk Try.prog 14 = true ∧ tyFld Try.prog 14 0 = some (0, 9) ∧ tyFld Try.prog 14 1 = some (1, 12) := by decide +kernel
theorem Z14 : tyZero Try.prog 14 = some [.string ⟨#[]⟩, .int .u64 0] := by kernel_rfl
theorem T15 : tySz Try.prog 15 = some 1 ∧ tyAgg Try.prog 15 = some false ∧ tyBytes Try.prog 15 = some 8 := by decide +kernel
theorem Z15 : tyZero Try.prog 15 = some [.pointer none] := by kernel_rfl
theorem T16 : tySz Try.prog 16 = some 1 ∧ tyAgg Try.prog 16 = some false ∧ tyBytes Try.prog 16 = some 8 := by decide +kernel
theorem Z16 : tyZero Try.prog 16 = some [.pointer none] := by kernel_rfl
theorem T17 : tySz Try.prog 17 = some 1 ∧ tyAgg Try.prog 17 = some false ∧ tyBytes Try.prog 17 = some 8 := by decide +kernel
theorem Z17 : tyZero Try.prog 17 = some [.pointer none] := by kernel_rfl
theorem T18 : tySz Try.prog 18 = some 1 ∧ tyAgg Try.prog 18 = some true ∧ tyBytes Try.prog 18 = some 8 ∧ fldsOk Try.prog 18 = true ∧ tyFld Try.prog 18 0 = some (0, 17) := by decide +kernel
theorem Z18 : tyZero Try.prog 18 = some [.pointer none] := by kernel_rfl
theorem T19 : tySz Try.prog 19 = some 1 ∧ tyAgg Try.prog 19 = some true ∧ tyBytes Try.prog 19 = some 8 ∧ fldsOk Try.prog 19 = true ∧ tyFld Try.prog 19 0 = some (0, 17) := by decide +kernel
theorem Z19 : tyZero Try.prog 19 = some [.pointer none] := by kernel_rfl
theorem T21 : tySz Try.prog 21 = some 1 ∧ tyAgg Try.prog 21 = some false ∧ tyBytes Try.prog 21 = some 4 := by decide +kernel
theorem Z21 : tyZero Try.prog 21 = some [.int .i32 0] := by kernel_rfl
theorem U21 : Try.prog.underlying 21 = some (.int .i32) := by kernel_rfl
theorem T22 : tySz Try.prog 22 = some 3 ∧ tyAgg Try.prog 22 = some true ∧ tyBytes Try.prog 22 = some 32 ∧ fldsOk Try.prog 22 = true ∧ tyFld Try.prog 22 0 = some (0, 3) ∧ tyFld Try.prog 22 1 = some (1, 3) ∧ tyFld Try.prog 22 2 = some (2, 9) := by decide +kernel
theorem Z22 : tyZero Try.prog 22 = some [.int .i64 0, .int .i64 0, .string ⟨#[]⟩] := by kernel_rfl
theorem T23 : tySz Try.prog 23 = some 3 ∧ tyAgg Try.prog 23 = some true ∧ tyBytes Try.prog 23 = some 32 ∧ fldsOk Try.prog 23 = true ∧ tyFld Try.prog 23 0 = some (0, 3) ∧ tyFld Try.prog 23 1 = some (1, 3) ∧ tyFld Try.prog 23 2 = some (2, 9) := by decide +kernel
theorem Z23 : tyZero Try.prog 23 = some [.int .i64 0, .int .i64 0, .string ⟨#[]⟩] := by kernel_rfl
theorem T28 : tySz Try.prog 28 = some 8 ∧ tyAgg Try.prog 28 = some true ∧ tyBytes Try.prog 28 = some 80 ∧ fldsOk Try.prog 28 = true ∧ tyFld Try.prog 28 0 = some (0, 3) ∧ tyFld Try.prog 28 1 = some (1, 3) ∧ tyFld Try.prog 28 2 = some (2, 3) ∧ tyFld Try.prog 28 3 = some (3, 9) ∧ tyFld Try.prog 28 4 = some (4, 9) ∧ tyFld Try.prog 28 5 = some (5, 3) ∧ tyFld Try.prog 28 6 = some (6, 3) ∧ tyFld Try.prog 28 7 = some (7, 4) := by decide +kernel
theorem Z28 : tyZero Try.prog 28 = some [.int .i64 0, .int .i64 0, .int .i64 0, .string ⟨#[]⟩, .string ⟨#[]⟩, .int .i64 0, .int .i64 0, .bool false] := by kernel_rfl
theorem T29 : tySz Try.prog 29 = some 8 ∧ tyAgg Try.prog 29 = some true ∧ tyBytes Try.prog 29 = some 80 ∧ fldsOk Try.prog 29 = true ∧ tyFld Try.prog 29 0 = some (0, 3) ∧ tyFld Try.prog 29 1 = some (1, 3) ∧ tyFld Try.prog 29 2 = some (2, 3) ∧ tyFld Try.prog 29 3 = some (3, 9) ∧ tyFld Try.prog 29 4 = some (4, 9) ∧ tyFld Try.prog 29 5 = some (5, 3) ∧ tyFld Try.prog 29 6 = some (6, 3) ∧ tyFld Try.prog 29 7 = some (7, 4) := by decide +kernel
theorem Z29 : tyZero Try.prog 29 = some [.int .i64 0, .int .i64 0, .int .i64 0, .string ⟨#[]⟩, .string ⟨#[]⟩, .int .i64 0, .int .i64 0, .bool false] := by kernel_rfl
theorem T33 : tySz Try.prog 33 = some 8 ∧ tyAgg Try.prog 33 = some true ∧ tyBytes Try.prog 33 = some 80 ∧ fldsOk Try.prog 33 = true ∧ tyFld Try.prog 33 0 = some (0, 3) ∧ tyFld Try.prog 33 1 = some (1, 3) ∧ tyFld Try.prog 33 2 = some (2, 3) ∧ tyFld Try.prog 33 3 = some (3, 9) ∧ tyFld Try.prog 33 4 = some (4, 9) ∧ tyFld Try.prog 33 5 = some (5, 3) ∧ tyFld Try.prog 33 6 = some (6, 3) ∧ tyFld Try.prog 33 7 = some (7, 4) := by decide +kernel
theorem Z33 : tyZero Try.prog 33 = some [.int .i64 0, .int .i64 0, .int .i64 0, .string ⟨#[]⟩, .string ⟨#[]⟩, .int .i64 0, .int .i64 0, .bool false] := by kernel_rfl
theorem T34 : tySz Try.prog 34 = some 1 ∧ tyAgg Try.prog 34 = some false ∧ tyBytes Try.prog 34 = some 24 ∧ tyElem Try.prog 34 = some 3 := by decide +kernel
theorem Z34 : tyZero Try.prog 34 = some [.slice none 0 0] := by kernel_rfl
theorem T35 : tySz Try.prog 35 = some 16 ∧ tyAgg Try.prog 35 = some true ∧ tyBytes Try.prog 35 = some 176 ∧ fldsOk Try.prog 35 = true ∧ tyFld Try.prog 35 0 = some (0, 3) ∧ tyFld Try.prog 35 1 = some (1, 3) ∧ tyFld Try.prog 35 2 = some (2, 3) ∧ tyFld Try.prog 35 3 = some (3, 3) ∧ tyFld Try.prog 35 4 = some (4, 33) ∧ tyFld Try.prog 35 5 = some (12, 34) ∧ tyFld Try.prog 35 6 = some (13, 4) ∧ tyFld Try.prog 35 7 = some (14, 3) ∧ tyFld Try.prog 35 8 = some (15, 34) := by decide +kernel
theorem Z35 : tyZero Try.prog 35 = some [.int .i64 0, .int .i64 0, .int .i64 0, .int .i64 0, .int .i64 0, .int .i64 0, .int .i64 0, .string ⟨#[]⟩, .string ⟨#[]⟩, .int .i64 0, .int .i64 0, .bool false, .slice none 0 0, .bool false, .int .i64 0, .slice none 0 0] := by kernel_rfl
theorem T36 : tySz Try.prog 36 = some 16 ∧ tyAgg Try.prog 36 = some true ∧ tyBytes Try.prog 36 = some 176 ∧ fldsOk Try.prog 36 = true ∧ tyFld Try.prog 36 0 = some (0, 3) ∧ tyFld Try.prog 36 1 = some (1, 3) ∧ tyFld Try.prog 36 2 = some (2, 3) ∧ tyFld Try.prog 36 3 = some (3, 3) ∧ tyFld Try.prog 36 4 = some (4, 33) ∧ tyFld Try.prog 36 5 = some (12, 34) ∧ tyFld Try.prog 36 6 = some (13, 4) ∧ tyFld Try.prog 36 7 = some (14, 3) ∧ tyFld Try.prog 36 8 = some (15, 34) := by decide +kernel
theorem Z36 : tyZero Try.prog 36 = some [.int .i64 0, .int .i64 0, .int .i64 0, .int .i64 0, .int .i64 0, .int .i64 0, .int .i64 0, .string ⟨#[]⟩, .string ⟨#[]⟩, .int .i64 0, .int .i64 0, .bool false, .slice none 0 0, .bool false, .int .i64 0, .slice none 0 0] := by kernel_rfl
theorem T39 : tySz Try.prog 39 = some 16 ∧ tyAgg Try.prog 39 = some true ∧ tyBytes Try.prog 39 = some 176 ∧ fldsOk Try.prog 39 = true ∧ tyFld Try.prog 39 0 = some (0, 3) ∧ tyFld Try.prog 39 1 = some (1, 3) ∧ tyFld Try.prog 39 2 = some (2, 3) ∧ tyFld Try.prog 39 3 = some (3, 3) ∧ tyFld Try.prog 39 4 = some (4, 29) ∧ tyFld Try.prog 39 5 = some (12, 34) ∧ tyFld Try.prog 39 6 = some (13, 4) ∧ tyFld Try.prog 39 7 = some (14, 3) ∧ tyFld Try.prog 39 8 = some (15, 34) := by decide +kernel
theorem Z39 : tyZero Try.prog 39 = some [.int .i64 0, .int .i64 0, .int .i64 0, .int .i64 0, .int .i64 0, .int .i64 0, .int .i64 0, .string ⟨#[]⟩, .string ⟨#[]⟩, .int .i64 0, .int .i64 0, .bool false, .slice none 0 0, .bool false, .int .i64 0, .slice none 0 0] := by kernel_rfl
theorem T40 : tySz Try.prog 40 = some 16 ∧ tyAgg Try.prog 40 = some true ∧ tyBytes Try.prog 40 = some 176 ∧ fldsOk Try.prog 40 = true ∧ tyFld Try.prog 40 0 = some (0, 3) ∧ tyFld Try.prog 40 1 = some (1, 3) ∧ tyFld Try.prog 40 2 = some (2, 3) ∧ tyFld Try.prog 40 3 = some (3, 3) ∧ tyFld Try.prog 40 4 = some (4, 29) ∧ tyFld Try.prog 40 5 = some (12, 34) ∧ tyFld Try.prog 40 6 = some (13, 4) ∧ tyFld Try.prog 40 7 = some (14, 3) ∧ tyFld Try.prog 40 8 = some (15, 34) := by decide +kernel
theorem Z40 : tyZero Try.prog 40 = some [.int .i64 0, .int .i64 0, .int .i64 0, .int .i64 0, .int .i64 0, .int .i64 0, .int .i64 0, .string ⟨#[]⟩, .string ⟨#[]⟩, .int .i64 0, .int .i64 0, .bool false, .slice none 0 0, .bool false, .int .i64 0, .slice none 0 0] := by kernel_rfl
theorem T44 : tySz Try.prog 44 = some 4 ∧ tyAgg Try.prog 44 = some true ∧ tyBytes Try.prog 44 = some 56 ∧ fldsOk Try.prog 44 = true ∧ tyFld Try.prog 44 0 = some (0, 3) ∧ tyFld Try.prog 44 1 = some (1, 3) ∧ tyFld Try.prog 44 2 = some (2, 34) ∧ tyFld Try.prog 44 3 = some (3, 9) := by decide +kernel
theorem Z44 : tyZero Try.prog 44 = some [.int .i64 0, .int .i64 0, .slice none 0 0, .string ⟨#[]⟩] := by kernel_rfl
theorem T45 : tySz Try.prog 45 = some 4 ∧ tyAgg Try.prog 45 = some true ∧ tyBytes Try.prog 45 = some 56 ∧ fldsOk Try.prog 45 = true ∧ tyFld Try.prog 45 0 = some (0, 3) ∧ tyFld Try.prog 45 1 = some (1, 3) ∧ tyFld Try.prog 45 2 = some (2, 34) ∧ tyFld Try.prog 45 3 = some (3, 9) := by decide +kernel
theorem Z45 : tyZero Try.prog 45 = some [.int .i64 0, .int .i64 0, .slice none 0 0, .string ⟨#[]⟩] := by kernel_rfl
theorem T50 : tySz Try.prog 50 = some 1 ∧ tyAgg Try.prog 50 = some false ∧ tyBytes Try.prog 50 = some 24 ∧ tyElem Try.prog 50 = some 23 := by decide +kernel
theorem Z50 : tyZero Try.prog 50 = some [.slice none 0 0] := by kernel_rfl
theorem T51 : tySz Try.prog 51 = some 12 ∧ tyAgg Try.prog 51 = some true ∧ tyBytes Try.prog 51 = some 136 ∧ fldsOk Try.prog 51 = true ∧ tyFld Try.prog 51 0 = some (0, 3) ∧ tyFld Try.prog 51 1 = some (1, 3) ∧ tyFld Try.prog 51 2 = some (2, 3) ∧ tyFld Try.prog 51 3 = some (3, 3) ∧ tyFld Try.prog 51 4 = some (4, 3) ∧ tyFld Try.prog 51 5 = some (5, 3) ∧ tyFld Try.prog 51 6 = some (6, 3) ∧ tyFld Try.prog 51 7 = some (7, 4) ∧ tyFld Try.prog 51 8 = some (8, 50) ∧ tyFld Try.prog 51 9 = some (9, 34) ∧ tyFld Try.prog 51 10 = some (10, 9) ∧ tyFld Try.prog 51 11 = some (11, 4) := by decide +kernel
theorem Z51 : tyZero Try.prog 51 = some [.int .i64 0, .int .i64 0, .int .i64 0, .int .i64 0, .int .i64 0, .int .i64 0, .int .i64 0, .bool false, .slice none 0 0, .slice none 0 0, .string ⟨#[]⟩, .bool false] := by kernel_rfl
theorem T52 : tySz Try.prog 52 = some 12 ∧ tyAgg Try.prog 52 = some true ∧ tyBytes Try.prog 52 = some 136 ∧ fldsOk Try.prog 52 = true ∧ tyFld Try.prog 52 0 = some (0, 3) ∧ tyFld Try.prog 52 1 = some (1, 3) ∧ tyFld Try.prog 52 2 = some (2, 3) ∧ tyFld Try.prog 52 3 = some (3, 3) ∧ tyFld Try.prog 52 4 = some (4, 3) ∧ tyFld Try.prog 52 5 = some (5, 3) ∧ tyFld Try.prog 52 6 = some (6, 3) ∧ tyFld Try.prog 52 7 = some (7, 4) ∧ tyFld Try.prog 52 8 = some (8, 50) ∧ tyFld Try.prog 52 9 = some (9, 34) ∧ tyFld Try.prog 52 10 = some (10, 9) ∧ tyFld Try.prog 52 11 = some (11, 4) := by decide +kernel
theorem Z52 : tyZero Try.prog 52 = some [.int .i64 0, .int .i64 0, .int .i64 0, .int .i64 0, .int .i64 0, .int .i64 0, .int .i64 0, .bool false, .slice none 0 0, .slice none 0 0, .string ⟨#[]⟩, .bool false] := by kernel_rfl
theorem T57 : tySz Try.prog 57 = some 3 ∧ tyAgg Try.prog 57 = some true ∧ tyBytes Try.prog 57 = some 40 ∧ fldsOk Try.prog 57 = true ∧ tyFld Try.prog 57 0 = some (0, 3) ∧ tyFld Try.prog 57 1 = some (1, 3) ∧ tyFld Try.prog 57 2 = some (2, 50) := by decide +kernel
theorem Z57 : tyZero Try.prog 57 = some [.int .i64 0, .int .i64 0, .slice none 0 0] := by kernel_rfl
theorem T58 : tySz Try.prog 58 = some 3 ∧ tyAgg Try.prog 58 = some true ∧ tyBytes Try.prog 58 = some 40 ∧ fldsOk Try.prog 58 = true ∧ tyFld Try.prog 58 0 = some (0, 3) ∧ tyFld Try.prog 58 1 = some (1, 3) ∧ tyFld Try.prog 58 2 = some (2, 50) := by decide +kernel
theorem Z58 : tyZero Try.prog 58 = some [.int .i64 0, .int .i64 0, .slice none 0 0] := by kernel_rfl
theorem T59 : tySz Try.prog 59 = some 6 ∧ tyAgg Try.prog 59 = some true ∧ tyBytes Try.prog 59 = some 64 ∧ fldsOk Try.prog 59 = true ∧ tyFld Try.prog 59 0 = some (0, 3) ∧ tyFld Try.prog 59 1 = some (1, 3) ∧ tyFld Try.prog 59 2 = some (2, 3) ∧ tyFld Try.prog 59 3 = some (3, 58) := by decide +kernel
theorem Z59 : tyZero Try.prog 59 = some [.int .i64 0, .int .i64 0, .int .i64 0, .int .i64 0, .int .i64 0, .slice none 0 0] := by kernel_rfl
theorem T60 : tySz Try.prog 60 = some 6 ∧ tyAgg Try.prog 60 = some true ∧ tyBytes Try.prog 60 = some 64 ∧ fldsOk Try.prog 60 = true ∧ tyFld Try.prog 60 0 = some (0, 3) ∧ tyFld Try.prog 60 1 = some (1, 3) ∧ tyFld Try.prog 60 2 = some (2, 3) ∧ tyFld Try.prog 60 3 = some (3, 58) := by decide +kernel
theorem Z60 : tyZero Try.prog 60 = some [.int .i64 0, .int .i64 0, .int .i64 0, .int .i64 0, .int .i64 0, .slice none 0 0] := by kernel_rfl
theorem T66 : tySz Try.prog 66 = some 1 ∧ tyAgg Try.prog 66 = some false ∧ tyBytes Try.prog 66 = some 8 := by decide +kernel
theorem Z66 : tyZero Try.prog 66 = some [.pointer none] := by kernel_rfl
theorem T67 : tySz Try.prog 67 = some 3 ∧ tyAgg Try.prog 67 = some true ∧ tyBytes Try.prog 67 = some 32 ∧ fldsOk Try.prog 67 = true ∧ tyFld Try.prog 67 0 = some (0, 9) ∧ tyFld Try.prog 67 1 = some (1, 3) ∧ tyFld Try.prog 67 2 = some (2, 4) := by decide +kernel
theorem Z67 : tyZero Try.prog 67 = some [.string ⟨#[]⟩, .int .i64 0, .bool false] := by kernel_rfl
theorem T68 : tySz Try.prog 68 = some 3 ∧ tyAgg Try.prog 68 = some true ∧ tyBytes Try.prog 68 = some 32 ∧ fldsOk Try.prog 68 = true ∧ tyFld Try.prog 68 0 = some (0, 9) ∧ tyFld Try.prog 68 1 = some (1, 3) ∧ tyFld Try.prog 68 2 = some (2, 4) := by decide +kernel
theorem Z68 : tyZero Try.prog 68 = some [.string ⟨#[]⟩, .int .i64 0, .bool false] := by kernel_rfl
theorem T73 : tySz Try.prog 73 = some 3 ∧ tyAgg Try.prog 73 = some true ∧ tyBytes Try.prog 73 = some 32 ∧ fldsOk Try.prog 73 = true ∧ tyFld Try.prog 73 0 = some (0, 9) ∧ tyFld Try.prog 73 1 = some (1, 3) ∧ tyFld Try.prog 73 2 = some (2, 4) := by decide +kernel
theorem Z73 : tyZero Try.prog 73 = some [.string ⟨#[]⟩, .int .i64 0, .bool false] := by kernel_rfl
theorem T74 : tySz Try.prog 74 = some 3 ∧ tyAgg Try.prog 74 = some true ∧ tyBytes Try.prog 74 = some 32 ∧ fldsOk Try.prog 74 = true ∧ tyFld Try.prog 74 0 = some (0, 9) ∧ tyFld Try.prog 74 1 = some (1, 3) ∧ tyFld Try.prog 74 2 = some (2, 4) := by decide +kernel
theorem Z74 : tyZero Try.prog 74 = some [.string ⟨#[]⟩, .int .i64 0, .bool false] := by kernel_rfl
theorem T79 : tySz Try.prog 79 = some 1 ∧ tyAgg Try.prog 79 = some false ∧ tyBytes Try.prog 79 = some 8 := by decide +kernel
theorem Z79 : tyZero Try.prog 79 = some [.pointer none] := by kernel_rfl
theorem T80 : tySz Try.prog 80 = some 3 ∧ tyAgg Try.prog 80 = some true ∧ tyBytes Try.prog 80 = some 32 ∧ fldsOk Try.prog 80 = true ∧ tyFld Try.prog 80 0 = some (0, 9) ∧ tyFld Try.prog 80 1 = some (1, 3) ∧ tyFld Try.prog 80 2 = some (2, 4) := by decide +kernel
theorem Z80 : tyZero Try.prog 80 = some [.string ⟨#[]⟩, .int .i64 0, .bool false] := by kernel_rfl
theorem T106 : tySz Try.prog 106 = some 1 ∧ tyAgg Try.prog 106 = some false ∧ tyBytes Try.prog 106 = some 24 ∧ tyElem Try.prog 106 = some 9 := by decide +kernel
theorem Z106 : tyZero Try.prog 106 = some [.slice none 0 0] := by kernel_rfl
theorem T113 : tySz Try.prog 113 = some 1 ∧ tyAgg Try.prog 113 = some false ∧ tyBytes Try.prog 113 = some 8 := by decide +kernel
theorem Z113 : tyZero Try.prog 113 = some [.pointer none] := by kernel_rfl
theorem T120 : tySz Try.prog 120 = some 1 ∧ tyAgg Try.prog 120 = some false ∧ tyBytes Try.prog 120 = some 24 ∧ tyElem Try.prog 120 = some 5 := by decide +kernel
theorem Z120 : tyZero Try.prog 120 = some [.slice none 0 0] := by kernel_rfl
theorem T121 : tySz Try.prog 121 = some 1 ∧ tyAgg Try.prog 121 = some false ∧ tyBytes Try.prog 121 = some 8 := by decide +kernel
theorem Z121 : tyZero Try.prog 121 = some [.pointer none] := by kernel_rfl
theorem T128 : tySz Try.prog 128 = some 1 ∧ tyAgg Try.prog 128 = some false ∧ tyBytes Try.prog 128 = some 4 := by decide +kernel
theorem Z128 : tyZero Try.prog 128 = some [.int .u32 0] := by kernel_rfl
theorem U128 : Try.prog.underlying 128 = some (.int .u32) := by kernel_rfl
theorem T137 : tySz Try.prog 137 = some 1 ∧ tyAgg Try.prog 137 = some false ∧ tyBytes Try.prog 137 = some 8 := by decide +kernel
theorem Z137 : tyZero Try.prog 137 = some [.int .u64 0] := by kernel_rfl
theorem U137 : Try.prog.underlying 137 = some (.int .u64) := by kernel_rfl
theorem T142 : tySz Try.prog 142 = some 1 ∧ tyAgg Try.prog 142 = some false ∧ tyBytes Try.prog 142 = some 8 := by decide +kernel
theorem Z142 : tyZero Try.prog 142 = some [.pointer none] := by kernel_rfl
theorem T144 : tySz Try.prog 144 = some 4 ∧ tyAgg Try.prog 144 = some true ∧ tyBytes Try.prog 144 = some 40 ∧ fldsOk Try.prog 144 = true ∧ tyFld Try.prog 144 0 = some (0, 17) ∧ tyFld Try.prog 144 1 = some (1, 17) ∧ tyFld Try.prog 144 2 = some (2, 17) ∧ tyFld Try.prog 144 3 = some (3, 9) := by decide +kernel
theorem Z144 : tyZero Try.prog 144 = some [.pointer none, .pointer none, .pointer none, .string ⟨#[]⟩] := by kernel_rfl
theorem T145 : tySz Try.prog 145 = some 4 ∧ tyAgg Try.prog 145 = some true ∧ tyBytes Try.prog 145 = some 40 ∧ fldsOk Try.prog 145 = true ∧ tyFld Try.prog 145 0 = some (0, 17) ∧ tyFld Try.prog 145 1 = some (1, 17) ∧ tyFld Try.prog 145 2 = some (2, 17) ∧ tyFld Try.prog 145 3 = some (3, 9) := by decide +kernel
theorem Z145 : tyZero Try.prog 145 = some [.pointer none, .pointer none, .pointer none, .string ⟨#[]⟩] := by kernel_rfl
theorem T149 : tySz Try.prog 149 = some 1 ∧ tyAgg Try.prog 149 = some false ∧ tyBytes Try.prog 149 = some 1 := by decide +kernel
theorem Z149 : tyZero Try.prog 149 = some [.int .u8 0] := by kernel_rfl
theorem U149 : Try.prog.underlying 149 = some (.int .u8) := by kernel_rfl
theorem T150 : tySz Try.prog 150 = some 1 ∧ tyAgg Try.prog 150 = some false ∧ tyBytes Try.prog 150 = some 1 := by decide +kernel
theorem Z150 : tyZero Try.prog 150 = some [.int .u8 0] := by kernel_rfl
theorem U150 : Try.prog.underlying 150 = some (.int .u8) := by kernel_rfl
theorem T152 : tySz Try.prog 152 = some 1 ∧ tyAgg Try.prog 152 = some false ∧ tyBytes Try.prog 152 = some 8 := by decide +kernel
theorem Z152 : tyZero Try.prog 152 = some [.pointer none] := by kernel_rfl
theorem T153 : tySz Try.prog 153 = some 1 ∧ tyAgg Try.prog 153 = some false ∧ tyBytes Try.prog 153 = some 4 := by decide +kernel
theorem Z153 : tyZero Try.prog 153 = some [.int .i32 0] := by kernel_rfl
theorem U153 : Try.prog.underlying 153 = some (.int .i32) := by kernel_rfl
theorem T154 : tySz Try.prog 154 = some 1 ∧ tyAgg Try.prog 154 = some false ∧ tyBytes Try.prog 154 = some 4 := by decide +kernel
theorem Z154 : tyZero Try.prog 154 = some [.int .i32 0] := by kernel_rfl
theorem U154 : Try.prog.underlying 154 = some (.int .i32) := by kernel_rfl
theorem T155 : tySz Try.prog 155 = some 11 ∧ tyAgg Try.prog 155 = some true ∧ tyBytes Try.prog 155 = some 48 ∧ fldsOk Try.prog 155 = true ∧ tyFld Try.prog 155 0 = some (0, 12) ∧ tyFld Try.prog 155 1 = some (1, 12) ∧ tyFld Try.prog 155 2 = some (2, 128) ∧ tyFld Try.prog 155 3 = some (3, 149) ∧ tyFld Try.prog 155 4 = some (4, 5) ∧ tyFld Try.prog 155 5 = some (5, 5) ∧ tyFld Try.prog 155 6 = some (6, 150) ∧ tyFld Try.prog 155 7 = some (7, 151) ∧ tyFld Try.prog 155 8 = some (8, 152) ∧ tyFld Try.prog 155 9 = some (9, 153) ∧ tyFld Try.prog 155 10 = some (10, 154) := by decide +kernel
theorem Z155 : tyZero Try.prog 155 = some [.int .u64 0, .int .u64 0, .int .u32 0, .int .u8 0, .int .u8 0, .int .u8 0, .int .u8 0, .nilFunc, .pointer none, .int .i32 0, .int .i32 0] := by kernel_rfl
theorem T156 : tySz Try.prog 156 = some 11 ∧ tyAgg Try.prog 156 = some true ∧ tyBytes Try.prog 156 = some 48 ∧ fldsOk Try.prog 156 = true ∧ tyFld Try.prog 156 0 = some (0, 12) ∧ tyFld Try.prog 156 1 = some (1, 12) ∧ tyFld Try.prog 156 2 = some (2, 128) ∧ tyFld Try.prog 156 3 = some (3, 149) ∧ tyFld Try.prog 156 4 = some (4, 5) ∧ tyFld Try.prog 156 5 = some (5, 5) ∧ tyFld Try.prog 156 6 = some (6, 150) ∧ tyFld Try.prog 156 7 = some (7, 151) ∧ tyFld Try.prog 156 8 = some (8, 152) ∧ tyFld Try.prog 156 9 = some (9, 153) ∧ tyFld Try.prog 156 10 = some (10, 154) := by decide +kernel
theorem Z156 : tyZero Try.prog 156 = some [.int .u64 0, .int .u64 0, .int .u32 0, .int .u8 0, .int .u8 0, .int .u8 0, .int .u8 0, .nilFunc, .pointer none, .int .i32 0, .int .i32 0] := by kernel_rfl
attribute [push_cast] T2 Z2 U2 T3 Z3 U3 T4 Z4 U4 T5 Z5 U5 T6 Z6 U6 T7 Z7 T8 Z8 T9 Z9 U9 T10 Z10 U10 T11 Z11 U11 T12 Z12 U12 T13 Z13 T14 Z14 T15 Z15 T16 Z16 T17
attribute [push_cast] Z17 T18 Z18 T19 Z19 T21 Z21 U21 T22 Z22 T23 Z23 T28 Z28 T29 Z29 T33 Z33 T34 Z34 T35 Z35 T36 Z36 T39 Z39 T40 Z40 T44 Z44 T45 Z45 T50 Z50 T51 Z51 T52 Z52 T57 Z57
attribute [push_cast] T58 Z58 T59 Z59 T60 Z60 T66 Z66 T67 Z67 T68 Z68 T73 Z73 T74 Z74 T79 Z79 T80 Z80 T106 Z106 T113 Z113 T120 Z120 T121 Z121 T128 Z128 U128 T137 Z137 U137 T142 Z142 T144 Z144 T145 Z145
attribute [push_cast] T149 Z149 U149 T150 Z150 U150 T152 Z152 T153 Z153 U153 T154 Z154 U154 T155 Z155 T156 Z156
end Go.Proofs.Ytadbfhgeekpdgaa
