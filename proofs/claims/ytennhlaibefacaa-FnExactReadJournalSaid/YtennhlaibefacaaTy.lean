/- What the types of this seat's program are: sizes, fields, zero values: each a closed fact. -/
import Derived.Test.YtennhlaibefacaaProg
import Derived.Test.YtennhlaibefacaaRxIII
namespace Go.Proofs.Ytennhlaibefacaa
open Go.Rx
theorem T2 : tySz Try.prog 2 = some 1 ∧ tyAgg Try.prog 2 = some false ∧ tyBytes Try.prog 2 = some 8 := by decide +kernel
theorem Z2 : tyZero Try.prog 2 = some [.int .i64 0] := by kernel_rfl
theorem U2 : Try.prog.underlying 2 = some (.int .i64) := by kernel_rfl
theorem T3 : tySz Try.prog 3 = some 1 ∧ tyAgg Try.prog 3 = some false ∧ tyBytes Try.prog 3 = some 8 := by decide +kernel
theorem Z3 : tyZero Try.prog 3 = some [.int .i64 0] := by kernel_rfl
theorem U3 : Try.prog.underlying 3 = some (.int .i64) := by kernel_rfl
theorem T4 : tySz Try.prog 4 = some 1 ∧ tyAgg Try.prog 4 = some false ∧ tyBytes Try.prog 4 = some 1 := by decide +kernel
theorem Z4 : tyZero Try.prog 4 = some [.bool false] := by kernel_rfl
theorem U4 : Try.prog.underlying 4 = some .bool := by kernel_rfl
theorem T5 : tySz Try.prog 5 = some 1 ∧ tyAgg Try.prog 5 = some false ∧ tyBytes Try.prog 5 = some 1 := by decide +kernel
theorem Z5 : tyZero Try.prog 5 = some [.int .u8 0] := by kernel_rfl
theorem U5 : Try.prog.underlying 5 = some (.int .u8) := by kernel_rfl
theorem T6 : tySz Try.prog 6 = some 1 ∧ tyAgg Try.prog 6 = some false ∧ tyBytes Try.prog 6 = some 1 := by decide +kernel
theorem Z6 : tyZero Try.prog 6 = some [.int .u8 0] := by kernel_rfl
theorem U6 : Try.prog.underlying 6 = some (.int .u8) := by kernel_rfl
theorem T7 : tySz Try.prog 7 = some 4 ∧ tyAgg Try.prog 7 = some true ∧ tyBytes Try.prog 7 = some 24 ∧ fldsOk Try.prog 7 = true ∧ tyFld Try.prog 7 0 = some (0, 2) ∧ tyFld Try.prog 7 1 = some (1, 3) ∧ tyFld Try.prog 7 2 = some (2, 4) ∧ tyFld Try.prog 7 3 = some (3, 6) := by decide +kernel
theorem Z7 : tyZero Try.prog 7 = some [.int .i64 0, .int .i64 0, .bool false, .int .u8 0] := by kernel_rfl
theorem T8 : tySz Try.prog 8 = some 4 ∧ tyAgg Try.prog 8 = some true ∧ tyBytes Try.prog 8 = some 24 ∧ fldsOk Try.prog 8 = true ∧ tyFld Try.prog 8 0 = some (0, 2) ∧ tyFld Try.prog 8 1 = some (1, 3) ∧ tyFld Try.prog 8 2 = some (2, 4) ∧ tyFld Try.prog 8 3 = some (3, 6) := by decide +kernel
theorem Z8 : tyZero Try.prog 8 = some [.int .i64 0, .int .i64 0, .bool false, .int .u8 0] := by kernel_rfl
theorem T9 : tySz Try.prog 9 = some 1 ∧ tyAgg Try.prog 9 = some false ∧ tyBytes Try.prog 9 = some 16 := by decide +kernel
theorem Z9 : tyZero Try.prog 9 = some [.string ⟨#[]⟩] := by kernel_rfl
theorem U9 : Try.prog.underlying 9 = some .string := by kernel_rfl
theorem T10 : tySz Try.prog 10 = some 1 ∧ tyAgg Try.prog 10 = some false ∧ tyBytes Try.prog 10 = some 16 := by decide +kernel
theorem Z10 : tyZero Try.prog 10 = some [.string ⟨#[]⟩] := by kernel_rfl
theorem U10 : Try.prog.underlying 10 = some .string := by kernel_rfl
theorem T11 : tySz Try.prog 11 = some 1 ∧ tyAgg Try.prog 11 = some false ∧ tyBytes Try.prog 11 = some 16 := by decide +kernel
theorem Z11 : tyZero Try.prog 11 = some [.string ⟨#[]⟩] := by kernel_rfl
theorem U11 : Try.prog.underlying 11 = some .string := by kernel_rfl
theorem T12 : tySz Try.prog 12 = some 1 ∧ tyAgg Try.prog 12 = some false ∧ tyBytes Try.prog 12 = some 8 := by decide +kernel
theorem Z12 : tyZero Try.prog 12 = some [.int .u64 0] := by kernel_rfl
theorem U12 : Try.prog.underlying 12 = some (.int .u64) := by kernel_rfl
theorem T13 : tySz Try.prog 13 = some 2 ∧ tyAgg Try.prog 13 = some true ∧ tyBytes Try.prog 13 = some 24 ∧ fldsOk Try.prog 13 = true ∧ tyFld Try.prog 13 0 = some (0, 9) ∧ tyFld Try.prog 13 1 = some (1, 12) := by decide +kernel
theorem Z13 : tyZero Try.prog 13 = some [.string ⟨#[]⟩, .int .u64 0] := by kernel_rfl
theorem T14 : tySz Try.prog 14 = some 2 ∧ tyAgg Try.prog 14 = some true ∧ tyBytes Try.prog 14 = some 24 ∧ fldsOk Try.prog 14 = true ∧ tyFld Try.prog 14 0 = some (0, 9) ∧ tyFld Try.prog 14 1 = some (1, 12) := by decide +kernel
theorem Z14 : tyZero Try.prog 14 = some [.string ⟨#[]⟩, .int .u64 0] := by kernel_rfl
theorem T15 : tySz Try.prog 15 = some 1 ∧ tyAgg Try.prog 15 = some false ∧ tyBytes Try.prog 15 = some 8 := by decide +kernel
theorem Z15 : tyZero Try.prog 15 = some [.pointer none] := by kernel_rfl
theorem T16 : tySz Try.prog 16 = some 1 ∧ tyAgg Try.prog 16 = some false ∧ tyBytes Try.prog 16 = some 8 := by decide +kernel
theorem Z16 : tyZero Try.prog 16 = some [.pointer none] := by kernel_rfl
theorem T17 : tySz Try.prog 17 = some 1 ∧ tyAgg Try.prog 17 = some false ∧ tyBytes Try.prog 17 = some 8 := by decide +kernel
theorem Z17 : tyZero Try.prog 17 = some [.pointer none] := by kernel_rfl
theorem T18 : tySz Try.prog 18 = some 1 ∧ tyAgg Try.prog 18 = some true ∧ tyBytes Try.prog 18 = some 8 ∧ fldsOk Try.prog 18 = true ∧ tyFld Try.prog 18 0 = some (0, 17) := by decide +kernel
theorem Z18 : tyZero Try.prog 18 = some [.pointer none] := by kernel_rfl
theorem T19 : tySz Try.prog 19 = some 1 ∧ tyAgg Try.prog 19 = some true ∧ tyBytes Try.prog 19 = some 8 ∧ fldsOk Try.prog 19 = true ∧ tyFld Try.prog 19 0 = some (0, 17) := by decide +kernel
theorem Z19 : tyZero Try.prog 19 = some [.pointer none] := by kernel_rfl
theorem T21 : tySz Try.prog 21 = some 1 ∧ tyAgg Try.prog 21 = some false ∧ tyBytes Try.prog 21 = some 4 := by decide +kernel
theorem Z21 : tyZero Try.prog 21 = some [.int .i32 0] := by kernel_rfl
theorem U21 : Try.prog.underlying 21 = some (.int .i32) := by kernel_rfl
theorem T22 : tySz Try.prog 22 = some 1 ∧ tyAgg Try.prog 22 = some false ∧ tyBytes Try.prog 22 = some 24 ∧ tyElem Try.prog 22 = some 35 := by decide +kernel
theorem Z22 : tyZero Try.prog 22 = some [.slice none 0 0] := by kernel_rfl
theorem T23 : tySz Try.prog 23 = some 3 ∧ tyAgg Try.prog 23 = some true ∧ tyBytes Try.prog 23 = some 40 ∧ fldsOk Try.prog 23 = true ∧ tyFld Try.prog 23 0 = some (0, 3) ∧ tyFld Try.prog 23 1 = some (1, 3) ∧ tyFld Try.prog 23 2 = some (2, 22) := by decide +kernel
theorem Z23 : tyZero Try.prog 23 = some [.int .i64 0, .int .i64 0, .slice none 0 0] := by kernel_rfl
theorem T24 : tySz Try.prog 24 = some 3 ∧ tyAgg Try.prog 24 = some true ∧ tyBytes Try.prog 24 = some 40 ∧ fldsOk Try.prog 24 = true ∧ tyFld Try.prog 24 0 = some (0, 3) ∧ tyFld Try.prog 24 1 = some (1, 3) ∧ tyFld Try.prog 24 2 = some (2, 22) := by decide +kernel
theorem Z24 : tyZero Try.prog 24 = some [.int .i64 0, .int .i64 0, .slice none 0 0] := by kernel_rfl
theorem T25 : tySz Try.prog 25 = some 6 ∧ tyAgg Try.prog 25 = some true ∧ tyBytes Try.prog 25 = some 64 ∧ fldsOk Try.prog 25 = true ∧ tyFld Try.prog 25 0 = some (0, 3) ∧ tyFld Try.prog 25 1 = some (1, 3) ∧ tyFld Try.prog 25 2 = some (2, 3) ∧ tyFld Try.prog 25 3 = some (3, 24) := by decide +kernel
theorem Z25 : tyZero Try.prog 25 = some [.int .i64 0, .int .i64 0, .int .i64 0, .int .i64 0, .int .i64 0, .slice none 0 0] := by kernel_rfl
theorem T26 : tySz Try.prog 26 = some 6 ∧ tyAgg Try.prog 26 = some true ∧ tyBytes Try.prog 26 = some 64 ∧ fldsOk Try.prog 26 = true ∧ tyFld Try.prog 26 0 = some (0, 3) ∧ tyFld Try.prog 26 1 = some (1, 3) ∧ tyFld Try.prog 26 2 = some (2, 3) ∧ tyFld Try.prog 26 3 = some (3, 24) := by decide +kernel
theorem Z26 : tyZero Try.prog 26 = some [.int .i64 0, .int .i64 0, .int .i64 0, .int .i64 0, .int .i64 0, .slice none 0 0] := by kernel_rfl
theorem T32 : tySz Try.prog 32 = some 1 ∧ tyAgg Try.prog 32 = some false ∧ tyBytes Try.prog 32 = some 24 ∧ tyElem Try.prog 32 = some 5 := by decide +kernel
theorem Z32 : tyZero Try.prog 32 = some [.slice none 0 0] := by kernel_rfl
theorem T34 : tySz Try.prog 34 = some 3 ∧ tyAgg Try.prog 34 = some true ∧ tyBytes Try.prog 34 = some 32 ∧ fldsOk Try.prog 34 = true ∧ tyFld Try.prog 34 0 = some (0, 3) ∧ tyFld Try.prog 34 1 = some (1, 3) ∧ tyFld Try.prog 34 2 = some (2, 9) := by decide +kernel
theorem Z34 : tyZero Try.prog 34 = some [.int .i64 0, .int .i64 0, .string ⟨#[]⟩] := by kernel_rfl
theorem T35 : tySz Try.prog 35 = some 3 ∧ tyAgg Try.prog 35 = some true ∧ tyBytes Try.prog 35 = some 32 ∧ fldsOk Try.prog 35 = true ∧ tyFld Try.prog 35 0 = some (0, 3) ∧ tyFld Try.prog 35 1 = some (1, 3) ∧ tyFld Try.prog 35 2 = some (2, 9) := by decide +kernel
theorem Z35 : tyZero Try.prog 35 = some [.int .i64 0, .int .i64 0, .string ⟨#[]⟩] := by kernel_rfl
theorem T42 : tySz Try.prog 42 = some 1 ∧ tyAgg Try.prog 42 = some false ∧ tyBytes Try.prog 42 = some 24 ∧ tyElem Try.prog 42 = some 3 := by decide +kernel
theorem Z42 : tyZero Try.prog 42 = some [.slice none 0 0] := by kernel_rfl
theorem T49 : tySz Try.prog 49 = some 1 ∧ tyAgg Try.prog 49 = some false ∧ tyBytes Try.prog 49 = some 24 ∧ tyElem Try.prog 49 = some 173 := by decide +kernel
theorem Z49 : tyZero Try.prog 49 = some [.slice none 0 0] := by kernel_rfl
theorem T50 : tySz Try.prog 50 = some 3 ∧ tyAgg Try.prog 50 = some true ∧ tyBytes Try.prog 50 = some 40 ∧ fldsOk Try.prog 50 = true ∧ tyFld Try.prog 50 0 = some (0, 3) ∧ tyFld Try.prog 50 1 = some (1, 3) ∧ tyFld Try.prog 50 2 = some (2, 49) := by decide +kernel
theorem Z50 : tyZero Try.prog 50 = some [.int .i64 0, .int .i64 0, .slice none 0 0] := by kernel_rfl
theorem T51 : tySz Try.prog 51 = some 3 ∧ tyAgg Try.prog 51 = some true ∧ tyBytes Try.prog 51 = some 40 ∧ fldsOk Try.prog 51 = true ∧ tyFld Try.prog 51 0 = some (0, 3) ∧ tyFld Try.prog 51 1 = some (1, 3) ∧ tyFld Try.prog 51 2 = some (2, 49) := by decide +kernel
theorem Z51 : tyZero Try.prog 51 = some [.int .i64 0, .int .i64 0, .slice none 0 0] := by kernel_rfl
theorem T52 : tySz Try.prog 52 = some 1 ∧ tyAgg Try.prog 52 = some false ∧ tyBytes Try.prog 52 = some 24 ∧ tyElem Try.prog 52 = some 157 := by decide +kernel
theorem Z52 : tyZero Try.prog 52 = some [.slice none 0 0] := by kernel_rfl
theorem T53 : tySz Try.prog 53 = some 14 ∧ tyAgg Try.prog 53 = some true ∧ tyBytes Try.prog 53 = some 176 ∧ fldsOk Try.prog 53 = true ∧ tyFld Try.prog 53 0 = some (0, 3) ∧ tyFld Try.prog 53 1 = some (1, 3) ∧ tyFld Try.prog 53 2 = some (2, 3) ∧ tyFld Try.prog 53 3 = some (3, 3) ∧ tyFld Try.prog 53 4 = some (4, 3) ∧ tyFld Try.prog 53 5 = some (5, 42) ∧ tyFld Try.prog 53 6 = some (6, 51) ∧ tyFld Try.prog 53 7 = some (9, 3) ∧ tyFld Try.prog 53 8 = some (10, 3) ∧ tyFld Try.prog 53 9 = some (11, 3) ∧ tyFld Try.prog 53 10 = some (12, 42) ∧ tyFld Try.prog 53 11 = some (13, 52) := by decide +kernel
theorem Z53 : tyZero Try.prog 53 = some [.int .i64 0, .int .i64 0, .int .i64 0, .int .i64 0, .int .i64 0, .slice none 0 0, .int .i64 0, .int .i64 0, .slice none 0 0, .int .i64 0, .int .i64 0, .int .i64 0, .slice none 0 0, .slice none 0 0] := by kernel_rfl
theorem T54 : tySz Try.prog 54 = some 14 ∧ tyAgg Try.prog 54 = some true ∧ tyBytes Try.prog 54 = some 176 ∧ fldsOk Try.prog 54 = true ∧ tyFld Try.prog 54 0 = some (0, 3) ∧ tyFld Try.prog 54 1 = some (1, 3) ∧ tyFld Try.prog 54 2 = some (2, 3) ∧ tyFld Try.prog 54 3 = some (3, 3) ∧ tyFld Try.prog 54 4 = some (4, 3) ∧ tyFld Try.prog 54 5 = some (5, 42) ∧ tyFld Try.prog 54 6 = some (6, 51) ∧ tyFld Try.prog 54 7 = some (9, 3) ∧ tyFld Try.prog 54 8 = some (10, 3) ∧ tyFld Try.prog 54 9 = some (11, 3) ∧ tyFld Try.prog 54 10 = some (12, 42) ∧ tyFld Try.prog 54 11 = some (13, 52) := by decide +kernel
theorem Z54 : tyZero Try.prog 54 = some [.int .i64 0, .int .i64 0, .int .i64 0, .int .i64 0, .int .i64 0, .slice none 0 0, .int .i64 0, .int .i64 0, .slice none 0 0, .int .i64 0, .int .i64 0, .int .i64 0, .slice none 0 0, .slice none 0 0] := by kernel_rfl
theorem T56 : tySz Try.prog 56 = some 1 ∧ tyAgg Try.prog 56 = some false ∧ tyBytes Try.prog 56 = some 24 ∧ tyElem Try.prog 56 = some 151 := by decide +kernel
theorem Z56 : tyZero Try.prog 56 = some [.slice none 0 0] := by kernel_rfl
theorem T57 : tySz Try.prog 57 = some 14 ∧ tyAgg Try.prog 57 = some true ∧ tyBytes Try.prog 57 = some 176 ∧ fldsOk Try.prog 57 = true ∧ tyFld Try.prog 57 0 = some (0, 3) ∧ tyFld Try.prog 57 1 = some (1, 3) ∧ tyFld Try.prog 57 2 = some (2, 3) ∧ tyFld Try.prog 57 3 = some (3, 3) ∧ tyFld Try.prog 57 4 = some (4, 3) ∧ tyFld Try.prog 57 5 = some (5, 42) ∧ tyFld Try.prog 57 6 = some (6, 24) ∧ tyFld Try.prog 57 7 = some (9, 3) ∧ tyFld Try.prog 57 8 = some (10, 3) ∧ tyFld Try.prog 57 9 = some (11, 3) ∧ tyFld Try.prog 57 10 = some (12, 42) ∧ tyFld Try.prog 57 11 = some (13, 56) := by decide +kernel
theorem Z57 : tyZero Try.prog 57 = some [.int .i64 0, .int .i64 0, .int .i64 0, .int .i64 0, .int .i64 0, .slice none 0 0, .int .i64 0, .int .i64 0, .slice none 0 0, .int .i64 0, .int .i64 0, .int .i64 0, .slice none 0 0, .slice none 0 0] := by kernel_rfl
theorem T58 : tySz Try.prog 58 = some 14 ∧ tyAgg Try.prog 58 = some true ∧ tyBytes Try.prog 58 = some 176 ∧ fldsOk Try.prog 58 = true ∧ tyFld Try.prog 58 0 = some (0, 3) ∧ tyFld Try.prog 58 1 = some (1, 3) ∧ tyFld Try.prog 58 2 = some (2, 3) ∧ tyFld Try.prog 58 3 = some (3, 3) ∧ tyFld Try.prog 58 4 = some (4, 3) ∧ tyFld Try.prog 58 5 = some (5, 42) ∧ tyFld Try.prog 58 6 = some (6, 24) ∧ tyFld Try.prog 58 7 = some (9, 3) ∧ tyFld Try.prog 58 8 = some (10, 3) ∧ tyFld Try.prog 58 9 = some (11, 3) ∧ tyFld Try.prog 58 10 = some (12, 42) ∧ tyFld Try.prog 58 11 = some (13, 56) := by decide +kernel
theorem Z58 : tyZero Try.prog 58 = some [.int .i64 0, .int .i64 0, .int .i64 0, .int .i64 0, .int .i64 0, .slice none 0 0, .int .i64 0, .int .i64 0, .slice none 0 0, .int .i64 0, .int .i64 0, .int .i64 0, .slice none 0 0, .slice none 0 0] := by kernel_rfl
theorem T59 : tySz Try.prog 59 = some 1 ∧ tyAgg Try.prog 59 = some false ∧ tyBytes Try.prog 59 = some 24 ∧ tyElem Try.prog 59 = some 115 := by decide +kernel
theorem Z59 : tyZero Try.prog 59 = some [.slice none 0 0] := by kernel_rfl
theorem T68 : tySz Try.prog 68 = some 1 ∧ tyAgg Try.prog 68 = some false ∧ tyBytes Try.prog 68 = some 24 ∧ tyElem Try.prog 68 = some 9 := by decide +kernel
theorem Z68 : tyZero Try.prog 68 = some [.slice none 0 0] := by kernel_rfl
theorem T76 : tySz Try.prog 76 = some 1 ∧ tyAgg Try.prog 76 = some false ∧ tyBytes Try.prog 76 = some 8 := by decide +kernel
theorem Z76 : tyZero Try.prog 76 = some [.pointer none] := by kernel_rfl
theorem T84 : tySz Try.prog 84 = some 1 ∧ tyAgg Try.prog 84 = some false ∧ tyBytes Try.prog 84 = some 8 := by decide +kernel
theorem Z84 : tyZero Try.prog 84 = some [.pointer none] := by kernel_rfl
theorem T91 : tySz Try.prog 91 = some 3 ∧ tyAgg Try.prog 91 = some true ∧ tyBytes Try.prog 91 = some 32 ∧ fldsOk Try.prog 91 = true ∧ tyFld Try.prog 91 0 = some (0, 9) ∧ tyFld Try.prog 91 1 = some (1, 3) ∧ tyFld Try.prog 91 2 = some (2, 4) := by decide +kernel
theorem Z91 : tyZero Try.prog 91 = some [.string ⟨#[]⟩, .int .i64 0, .bool false] := by kernel_rfl
theorem T92 : tySz Try.prog 92 = some 3 ∧ tyAgg Try.prog 92 = some true ∧ tyBytes Try.prog 92 = some 32 ∧ fldsOk Try.prog 92 = true ∧ tyFld Try.prog 92 0 = some (0, 9) ∧ tyFld Try.prog 92 1 = some (1, 3) ∧ tyFld Try.prog 92 2 = some (2, 4) := by decide +kernel
theorem Z92 : tyZero Try.prog 92 = some [.string ⟨#[]⟩, .int .i64 0, .bool false] := by kernel_rfl
theorem T103 : tySz Try.prog 103 = some 1 ∧ tyAgg Try.prog 103 = some false ∧ tyBytes Try.prog 103 = some 8 := by decide +kernel
theorem Z103 : tyZero Try.prog 103 = some [.pointer none] := by kernel_rfl
theorem T105 : tySz Try.prog 105 = some 15 ∧ tyAgg Try.prog 105 = some true ∧ tyBytes Try.prog 105 = some 200 ∧ fldsOk Try.prog 105 = true ∧ tyFld Try.prog 105 0 = some (0, 58) ∧ tyFld Try.prog 105 1 = some (14, 59) := by decide +kernel
theorem Z105 : tyZero Try.prog 105 = some [.int .i64 0, .int .i64 0, .int .i64 0, .int .i64 0, .int .i64 0, .slice none 0 0, .int .i64 0, .int .i64 0, .slice none 0 0, .int .i64 0, .int .i64 0, .int .i64 0, .slice none 0 0, .slice none 0 0, .slice none 0 0] := by kernel_rfl
theorem T106 : tySz Try.prog 106 = some 15 ∧ tyAgg Try.prog 106 = some true ∧ tyBytes Try.prog 106 = some 200 ∧ fldsOk Try.prog 106 = true ∧ tyFld Try.prog 106 0 = some (0, 58) ∧ tyFld Try.prog 106 1 = some (14, 59) := by decide +kernel
theorem Z106 : tyZero Try.prog 106 = some [.int .i64 0, .int .i64 0, .int .i64 0, .int .i64 0, .int .i64 0, .slice none 0 0, .int .i64 0, .int .i64 0, .slice none 0 0, .int .i64 0, .int .i64 0, .int .i64 0, .slice none 0 0, .slice none 0 0, .slice none 0 0] := by kernel_rfl
theorem T114 : tySz Try.prog 114 = some 12 ∧ tyAgg Try.prog 114 = some true ∧ tyBytes Try.prog 114 = some 136 ∧ fldsOk Try.prog 114 = true ∧ tyFld Try.prog 114 0 = some (0, 3) ∧ tyFld Try.prog 114 1 = some (1, 3) ∧ tyFld Try.prog 114 2 = some (2, 3) ∧ tyFld Try.prog 114 3 = some (3, 3) ∧ tyFld Try.prog 114 4 = some (4, 3) ∧ tyFld Try.prog 114 5 = some (5, 3) ∧ tyFld Try.prog 114 6 = some (6, 3) ∧ tyFld Try.prog 114 7 = some (7, 4) ∧ tyFld Try.prog 114 8 = some (8, 22) ∧ tyFld Try.prog 114 9 = some (9, 42) ∧ tyFld Try.prog 114 10 = some (10, 9) ∧ tyFld Try.prog 114 11 = some (11, 4) := by decide +kernel
theorem Z114 : tyZero Try.prog 114 = some [.int .i64 0, .int .i64 0, .int .i64 0, .int .i64 0, .int .i64 0, .int .i64 0, .int .i64 0, .bool false, .slice none 0 0, .slice none 0 0, .string ⟨#[]⟩, .bool false] := by kernel_rfl
theorem T115 : tySz Try.prog 115 = some 12 ∧ tyAgg Try.prog 115 = some true ∧ tyBytes Try.prog 115 = some 136 ∧ fldsOk Try.prog 115 = true ∧ tyFld Try.prog 115 0 = some (0, 3) ∧ tyFld Try.prog 115 1 = some (1, 3) ∧ tyFld Try.prog 115 2 = some (2, 3) ∧ tyFld Try.prog 115 3 = some (3, 3) ∧ tyFld Try.prog 115 4 = some (4, 3) ∧ tyFld Try.prog 115 5 = some (5, 3) ∧ tyFld Try.prog 115 6 = some (6, 3) ∧ tyFld Try.prog 115 7 = some (7, 4) ∧ tyFld Try.prog 115 8 = some (8, 22) ∧ tyFld Try.prog 115 9 = some (9, 42) ∧ tyFld Try.prog 115 10 = some (10, 9) ∧ tyFld Try.prog 115 11 = some (11, 4) := by decide +kernel
theorem Z115 : tyZero Try.prog 115 = some [.int .i64 0, .int .i64 0, .int .i64 0, .int .i64 0, .int .i64 0, .int .i64 0, .int .i64 0, .bool false, .slice none 0 0, .slice none 0 0, .string ⟨#[]⟩, .bool false] := by kernel_rfl
theorem T125 : tySz Try.prog 125 = some 1 ∧ tyAgg Try.prog 125 = some false ∧ tyBytes Try.prog 125 = some 8 := by decide +kernel
theorem Z125 : tyZero Try.prog 125 = some [.pointer none] := by kernel_rfl
theorem T126 : tySz Try.prog 126 = some 3 ∧ tyAgg Try.prog 126 = some true ∧ tyBytes Try.prog 126 = some 32 ∧ fldsOk Try.prog 126 = true ∧ tyFld Try.prog 126 0 = some (0, 9) ∧ tyFld Try.prog 126 1 = some (1, 3) ∧ tyFld Try.prog 126 2 = some (2, 4) := by decide +kernel
theorem Z126 : tyZero Try.prog 126 = some [.string ⟨#[]⟩, .int .i64 0, .bool false] := by kernel_rfl
theorem T127 : tySz Try.prog 127 = some 3 ∧ tyAgg Try.prog 127 = some true ∧ tyBytes Try.prog 127 = some 32 ∧ fldsOk Try.prog 127 = true ∧ tyFld Try.prog 127 0 = some (0, 9) ∧ tyFld Try.prog 127 1 = some (1, 3) ∧ tyFld Try.prog 127 2 = some (2, 4) := by decide +kernel
theorem Z127 : tyZero Try.prog 127 = some [.string ⟨#[]⟩, .int .i64 0, .bool false] := by kernel_rfl
theorem T133 : tySz Try.prog 133 = some 1 ∧ tyAgg Try.prog 133 = some false ∧ tyBytes Try.prog 133 = some 4 := by decide +kernel
theorem Z133 : tyZero Try.prog 133 = some [.int .u32 0] := by kernel_rfl
theorem U133 : Try.prog.underlying 133 = some (.int .u32) := by kernel_rfl
theorem T141 : tySz Try.prog 141 = some 3 ∧ tyAgg Try.prog 141 = some true ∧ tyBytes Try.prog 141 = some 40 ∧ fldsOk Try.prog 141 = true ∧ tyFld Try.prog 141 0 = some (0, 32) ∧ tyFld Try.prog 141 1 = some (1, 3) ∧ tyFld Try.prog 141 2 = some (2, 3) := by decide +kernel
theorem Z141 : tyZero Try.prog 141 = some [.slice none 0 0, .int .i64 0, .int .i64 0] := by kernel_rfl
theorem T142 : tySz Try.prog 142 = some 3 ∧ tyAgg Try.prog 142 = some true ∧ tyBytes Try.prog 142 = some 40 ∧ fldsOk Try.prog 142 = true ∧ tyFld Try.prog 142 0 = some (0, 32) ∧ tyFld Try.prog 142 1 = some (1, 3) ∧ tyFld Try.prog 142 2 = some (2, 3) := by decide +kernel
theorem Z142 : tyZero Try.prog 142 = some [.slice none 0 0, .int .i64 0, .int .i64 0] := by kernel_rfl
theorem T148 : tySz Try.prog 148 = some 1 ∧ tyAgg Try.prog 148 = some false ∧ tyBytes Try.prog 148 = some 8 := by decide +kernel
theorem Z148 : tyZero Try.prog 148 = some [.pointer none] := by kernel_rfl
theorem T150 : tySz Try.prog 150 = some 4 ∧ tyAgg Try.prog 150 = some true ∧ tyBytes Try.prog 150 = some 32 ∧ fldsOk Try.prog 150 = true ∧ tyFld Try.prog 150 0 = some (0, 3) ∧ tyFld Try.prog 150 1 = some (1, 3) ∧ tyFld Try.prog 150 2 = some (2, 3) ∧ tyFld Try.prog 150 3 = some (3, 3) := by decide +kernel
theorem Z150 : tyZero Try.prog 150 = some [.int .i64 0, .int .i64 0, .int .i64 0, .int .i64 0] := by kernel_rfl
theorem T151 : tySz Try.prog 151 = some 4 ∧ tyAgg Try.prog 151 = some true ∧ tyBytes Try.prog 151 = some 32 ∧ fldsOk Try.prog 151 = true ∧ tyFld Try.prog 151 0 = some (0, 3) ∧ tyFld Try.prog 151 1 = some (1, 3) ∧ tyFld Try.prog 151 2 = some (2, 3) ∧ tyFld Try.prog 151 3 = some (3, 3) := by decide +kernel
theorem Z151 : tyZero Try.prog 151 = some [.int .i64 0, .int .i64 0, .int .i64 0, .int .i64 0] := by kernel_rfl
theorem T157 : tySz Try.prog 157 = some 4 ∧ tyAgg Try.prog 157 = some true ∧ tyBytes Try.prog 157 = some 32 ∧ fldsOk Try.prog 157 = true ∧ tyFld Try.prog 157 0 = some (0, 3) ∧ tyFld Try.prog 157 1 = some (1, 3) ∧ tyFld Try.prog 157 2 = some (2, 3) ∧ tyFld Try.prog 157 3 = some (3, 3) := by decide +kernel
theorem Z157 : tyZero Try.prog 157 = some [.int .i64 0, .int .i64 0, .int .i64 0, .int .i64 0] := by kernel_rfl
theorem T160 : tySz Try.prog 160 = some 1 ∧ tyAgg Try.prog 160 = some false ∧ tyBytes Try.prog 160 = some 8 := by decide +kernel
theorem Z160 : tyZero Try.prog 160 = some [.pointer none] := by kernel_rfl
theorem T164 : tySz Try.prog 164 = some 1 ∧ tyAgg Try.prog 164 = some false ∧ tyBytes Try.prog 164 = some 8 := by decide +kernel
theorem Z164 : tyZero Try.prog 164 = some [.int .u64 0] := by kernel_rfl
theorem U164 : Try.prog.underlying 164 = some (.int .u64) := by kernel_rfl
theorem T169 : tySz Try.prog 169 = some 8 ∧ tyAgg Try.prog 169 = some true ∧ tyBytes Try.prog 169 = some 80 ∧ fldsOk Try.prog 169 = true ∧ tyFld Try.prog 169 0 = some (0, 3) ∧ tyFld Try.prog 169 1 = some (1, 3) ∧ tyFld Try.prog 169 2 = some (2, 3) ∧ tyFld Try.prog 169 3 = some (3, 9) ∧ tyFld Try.prog 169 4 = some (4, 9) ∧ tyFld Try.prog 169 5 = some (5, 3) ∧ tyFld Try.prog 169 6 = some (6, 3) ∧ tyFld Try.prog 169 7 = some (7, 4) := by decide +kernel
theorem Z169 : tyZero Try.prog 169 = some [.int .i64 0, .int .i64 0, .int .i64 0, .string ⟨#[]⟩, .string ⟨#[]⟩, .int .i64 0, .int .i64 0, .bool false] := by kernel_rfl
theorem T170 : tySz Try.prog 170 = some 8 ∧ tyAgg Try.prog 170 = some true ∧ tyBytes Try.prog 170 = some 80 ∧ fldsOk Try.prog 170 = true ∧ tyFld Try.prog 170 0 = some (0, 3) ∧ tyFld Try.prog 170 1 = some (1, 3) ∧ tyFld Try.prog 170 2 = some (2, 3) ∧ tyFld Try.prog 170 3 = some (3, 9) ∧ tyFld Try.prog 170 4 = some (4, 9) ∧ tyFld Try.prog 170 5 = some (5, 3) ∧ tyFld Try.prog 170 6 = some (6, 3) ∧ tyFld Try.prog 170 7 = some (7, 4) := by decide +kernel
theorem Z170 : tyZero Try.prog 170 = some [.int .i64 0, .int .i64 0, .int .i64 0, .string ⟨#[]⟩, .string ⟨#[]⟩, .int .i64 0, .int .i64 0, .bool false] := by kernel_rfl
theorem T173 : tySz Try.prog 173 = some 3 ∧ tyAgg Try.prog 173 = some true ∧ tyBytes Try.prog 173 = some 32 ∧ fldsOk Try.prog 173 = true ∧ tyFld Try.prog 173 0 = some (0, 3) ∧ tyFld Try.prog 173 1 = some (1, 3) ∧ tyFld Try.prog 173 2 = some (2, 9) := by decide +kernel
theorem Z173 : tyZero Try.prog 173 = some [.int .i64 0, .int .i64 0, .string ⟨#[]⟩] := by kernel_rfl
theorem T181 : tySz Try.prog 181 = some 1 ∧ tyAgg Try.prog 181 = some false ∧ tyBytes Try.prog 181 = some 8 := by decide +kernel
theorem Z181 : tyZero Try.prog 181 = some [.pointer none] := by kernel_rfl
theorem T184 : tySz Try.prog 184 = some 1 ∧ tyAgg Try.prog 184 = some false ∧ tyBytes Try.prog 184 = some 24 ∧ tyElem Try.prog 184 = some 191 := by decide +kernel
theorem Z184 : tyZero Try.prog 184 = some [.slice none 0 0] := by kernel_rfl
theorem T185 : tySz Try.prog 185 = some 1 ∧ tyAgg Try.prog 185 = some false ∧ tyBytes Try.prog 185 = some 24 ∧ tyElem Try.prog 185 = some 206 := by decide +kernel
theorem Z185 : tyZero Try.prog 185 = some [.slice none 0 0] := by kernel_rfl
theorem T186 : tySz Try.prog 186 = some 1 ∧ tyAgg Try.prog 186 = some false ∧ tyBytes Try.prog 186 = some 24 ∧ tyElem Try.prog 186 = some 212 := by decide +kernel
theorem Z186 : tyZero Try.prog 186 = some [.slice none 0 0] := by kernel_rfl
theorem T187 : tySz Try.prog 187 = some 5 ∧ tyAgg Try.prog 187 = some true ∧ tyBytes Try.prog 187 = some 88 ∧ fldsOk Try.prog 187 = true ∧ tyFld Try.prog 187 0 = some (0, 184) ∧ tyFld Try.prog 187 1 = some (1, 185) ∧ tyFld Try.prog 187 2 = some (2, 186) ∧ tyFld Try.prog 187 3 = some (3, 3) ∧ tyFld Try.prog 187 4 = some (4, 3) := by decide +kernel
theorem Z187 : tyZero Try.prog 187 = some [.slice none 0 0, .slice none 0 0, .slice none 0 0, .int .i64 0, .int .i64 0] := by kernel_rfl
theorem T188 : tySz Try.prog 188 = some 5 ∧ tyAgg Try.prog 188 = some true ∧ tyBytes Try.prog 188 = some 88 ∧ fldsOk Try.prog 188 = true ∧ tyFld Try.prog 188 0 = some (0, 184) ∧ tyFld Try.prog 188 1 = some (1, 185) ∧ tyFld Try.prog 188 2 = some (2, 186) ∧ tyFld Try.prog 188 3 = some (3, 3) ∧ tyFld Try.prog 188 4 = some (4, 3) := by decide +kernel
theorem Z188 : tyZero Try.prog 188 = some [.slice none 0 0, .slice none 0 0, .slice none 0 0, .int .i64 0, .int .i64 0] := by kernel_rfl
theorem T190 : tySz Try.prog 190 = some 3 ∧ tyAgg Try.prog 190 = some true ∧ tyBytes Try.prog 190 = some 32 ∧ fldsOk Try.prog 190 = true ∧ tyFld Try.prog 190 0 = some (0, 3) ∧ tyFld Try.prog 190 1 = some (1, 3) ∧ tyFld Try.prog 190 2 = some (2, 9) := by decide +kernel
theorem Z190 : tyZero Try.prog 190 = some [.int .i64 0, .int .i64 0, .string ⟨#[]⟩] := by kernel_rfl
theorem T191 : tySz Try.prog 191 = some 3 ∧ tyAgg Try.prog 191 = some true ∧ tyBytes Try.prog 191 = some 32 ∧ fldsOk Try.prog 191 = true ∧ tyFld Try.prog 191 0 = some (0, 3) ∧ tyFld Try.prog 191 1 = some (1, 3) ∧ tyFld Try.prog 191 2 = some (2, 9) := by decide +kernel
theorem Z191 : tyZero Try.prog 191 = some [.int .i64 0, .int .i64 0, .string ⟨#[]⟩] := by kernel_rfl
theorem T199 : tySz Try.prog 199 = some 1 ∧ tyAgg Try.prog 199 = some false ∧ tyBytes Try.prog 199 = some 24 ∧ tyElem Try.prog 199 = some 229 := by decide +kernel
theorem Z199 : tyZero Try.prog 199 = some [.slice none 0 0] := by kernel_rfl
theorem T200 : tySz Try.prog 200 = some 6 ∧ tyAgg Try.prog 200 = some true ∧ tyBytes Try.prog 200 = some 80 ∧ fldsOk Try.prog 200 = true ∧ tyFld Try.prog 200 0 = some (0, 9) ∧ tyFld Try.prog 200 1 = some (1, 9) ∧ tyFld Try.prog 200 2 = some (2, 3) ∧ tyFld Try.prog 200 3 = some (3, 3) ∧ tyFld Try.prog 200 4 = some (4, 4) ∧ tyFld Try.prog 200 5 = some (5, 199) := by decide +kernel
theorem Z200 : tyZero Try.prog 200 = some [.string ⟨#[]⟩, .string ⟨#[]⟩, .int .i64 0, .int .i64 0, .bool false, .slice none 0 0] := by kernel_rfl
theorem T201 : tySz Try.prog 201 = some 6 ∧ tyAgg Try.prog 201 = some true ∧ tyBytes Try.prog 201 = some 80 ∧ fldsOk Try.prog 201 = true ∧ tyFld Try.prog 201 0 = some (0, 9) ∧ tyFld Try.prog 201 1 = some (1, 9) ∧ tyFld Try.prog 201 2 = some (2, 3) ∧ tyFld Try.prog 201 3 = some (3, 3) ∧ tyFld Try.prog 201 4 = some (4, 4) ∧ tyFld Try.prog 201 5 = some (5, 199) := by decide +kernel
theorem Z201 : tyZero Try.prog 201 = some [.string ⟨#[]⟩, .string ⟨#[]⟩, .int .i64 0, .int .i64 0, .bool false, .slice none 0 0] := by kernel_rfl
theorem T205 : tySz Try.prog 205 = some 9 ∧ tyAgg Try.prog 205 = some true ∧ tyBytes Try.prog 205 = some 104 ∧ fldsOk Try.prog 205 = true ∧ tyFld Try.prog 205 0 = some (0, 201) ∧ tyFld Try.prog 205 1 = some (6, 4) ∧ tyFld Try.prog 205 2 = some (7, 3) ∧ tyFld Try.prog 205 3 = some (8, 3) := by decide +kernel
theorem Z205 : tyZero Try.prog 205 = some [.string ⟨#[]⟩, .string ⟨#[]⟩, .int .i64 0, .int .i64 0, .bool false, .slice none 0 0, .bool false, .int .i64 0, .int .i64 0] := by kernel_rfl
theorem T206 : tySz Try.prog 206 = some 9 ∧ tyAgg Try.prog 206 = some true ∧ tyBytes Try.prog 206 = some 104 ∧ fldsOk Try.prog 206 = true ∧ tyFld Try.prog 206 0 = some (0, 201) ∧ tyFld Try.prog 206 1 = some (6, 4) ∧ tyFld Try.prog 206 2 = some (7, 3) ∧ tyFld Try.prog 206 3 = some (8, 3) := by decide +kernel
theorem Z206 : tyZero Try.prog 206 = some [.string ⟨#[]⟩, .string ⟨#[]⟩, .int .i64 0, .int .i64 0, .bool false, .slice none 0 0, .bool false, .int .i64 0, .int .i64 0] := by kernel_rfl
theorem T208 : tySz Try.prog 208 = some 2 ∧ tyAgg Try.prog 208 = some true ∧ tyBytes Try.prog 208 = some 16 ∧ fldsOk Try.prog 208 = true ∧ tyFld Try.prog 208 0 = some (0, 3) ∧ tyFld Try.prog 208 1 = some (1, 3) := by decide +kernel
theorem Z208 : tyZero Try.prog 208 = some [.int .i64 0, .int .i64 0] := by kernel_rfl
theorem T209 : tySz Try.prog 209 = some 2 ∧ tyAgg Try.prog 209 = some true ∧ tyBytes Try.prog 209 = some 16 ∧ fldsOk Try.prog 209 = true ∧ tyFld Try.prog 209 0 = some (0, 3) ∧ tyFld Try.prog 209 1 = some (1, 3) := by decide +kernel
theorem Z209 : tyZero Try.prog 209 = some [.int .i64 0, .int .i64 0] := by kernel_rfl
theorem T210 : tySz Try.prog 210 = some 1 ∧ tyAgg Try.prog 210 = some false ∧ tyBytes Try.prog 210 = some 24 ∧ tyElem Try.prog 210 = some 226 := by decide +kernel
theorem Z210 : tyZero Try.prog 210 = some [.slice none 0 0] := by kernel_rfl
theorem T211 : tySz Try.prog 211 = some 5 ∧ tyAgg Try.prog 211 = some true ∧ tyBytes Try.prog 211 = some 64 ∧ fldsOk Try.prog 211 = true ∧ tyFld Try.prog 211 0 = some (0, 9) ∧ tyFld Try.prog 211 1 = some (1, 209) ∧ tyFld Try.prog 211 2 = some (3, 3) ∧ tyFld Try.prog 211 3 = some (4, 210) := by decide +kernel
theorem Z211 : tyZero Try.prog 211 = some [.string ⟨#[]⟩, .int .i64 0, .int .i64 0, .int .i64 0, .slice none 0 0] := by kernel_rfl
theorem T212 : tySz Try.prog 212 = some 5 ∧ tyAgg Try.prog 212 = some true ∧ tyBytes Try.prog 212 = some 64 ∧ fldsOk Try.prog 212 = true ∧ tyFld Try.prog 212 0 = some (0, 9) ∧ tyFld Try.prog 212 1 = some (1, 209) ∧ tyFld Try.prog 212 2 = some (3, 3) ∧ tyFld Try.prog 212 3 = some (4, 210) := by decide +kernel
theorem Z212 : tyZero Try.prog 212 = some [.string ⟨#[]⟩, .int .i64 0, .int .i64 0, .int .i64 0, .slice none 0 0] := by kernel_rfl
theorem T218 : tySz Try.prog 218 = some 1 ∧ tyAgg Try.prog 218 = some false ∧ tyBytes Try.prog 218 = some 8 := by decide +kernel
theorem Z218 : tyZero Try.prog 218 = some [.pointer none] := by kernel_rfl
theorem T225 : tySz Try.prog 225 = some 4 ∧ tyAgg Try.prog 225 = some true ∧ tyBytes Try.prog 225 = some 32 ∧ fldsOk Try.prog 225 = true ∧ tyFld Try.prog 225 0 = some (0, 3) ∧ tyFld Try.prog 225 1 = some (1, 3) ∧ tyFld Try.prog 225 2 = some (2, 3) ∧ tyFld Try.prog 225 3 = some (3, 3) := by decide +kernel
theorem Z225 : tyZero Try.prog 225 = some [.int .i64 0, .int .i64 0, .int .i64 0, .int .i64 0] := by kernel_rfl
theorem T226 : tySz Try.prog 226 = some 4 ∧ tyAgg Try.prog 226 = some true ∧ tyBytes Try.prog 226 = some 32 ∧ fldsOk Try.prog 226 = true ∧ tyFld Try.prog 226 0 = some (0, 3) ∧ tyFld Try.prog 226 1 = some (1, 3) ∧ tyFld Try.prog 226 2 = some (2, 3) ∧ tyFld Try.prog 226 3 = some (3, 3) := by decide +kernel
theorem Z226 : tyZero Try.prog 226 = some [.int .i64 0, .int .i64 0, .int .i64 0, .int .i64 0] := by kernel_rfl
theorem T228 : tySz Try.prog 228 = some 5 ∧ tyAgg Try.prog 228 = some true ∧ tyBytes Try.prog 228 = some 72 ∧ fldsOk Try.prog 228 = true ∧ tyFld Try.prog 228 0 = some (0, 9) ∧ tyFld Try.prog 228 1 = some (1, 9) ∧ tyFld Try.prog 228 2 = some (2, 3) ∧ tyFld Try.prog 228 3 = some (3, 4) ∧ tyFld Try.prog 228 4 = some (4, 68) := by decide +kernel
theorem Z228 : tyZero Try.prog 228 = some [.string ⟨#[]⟩, .string ⟨#[]⟩, .int .i64 0, .bool false, .slice none 0 0] := by kernel_rfl
theorem T229 : tySz Try.prog 229 = some 5 ∧ tyAgg Try.prog 229 = some true ∧ tyBytes Try.prog 229 = some 72 ∧ fldsOk Try.prog 229 = true ∧ tyFld Try.prog 229 0 = some (0, 9) ∧ tyFld Try.prog 229 1 = some (1, 9) ∧ tyFld Try.prog 229 2 = some (2, 3) ∧ tyFld Try.prog 229 3 = some (3, 4) ∧ tyFld Try.prog 229 4 = some (4, 68) := by decide +kernel
theorem Z229 : tyZero Try.prog 229 = some [.string ⟨#[]⟩, .string ⟨#[]⟩, .int .i64 0, .bool false, .slice none 0 0] := by kernel_rfl
theorem T230 : tySz Try.prog 230 = some 5 ∧ tyAgg Try.prog 230 = some true ∧ tyBytes Try.prog 230 = some 120 ∧ fldsOk Try.prog 230 = true ∧ tyFld Try.prog 230 0 = some (0, 42) ∧ tyFld Try.prog 230 1 = some (1, 42) ∧ tyFld Try.prog 230 2 = some (2, 42) ∧ tyFld Try.prog 230 3 = some (3, 42) ∧ tyFld Try.prog 230 4 = some (4, 42) := by decide +kernel
theorem Z230 : tyZero Try.prog 230 = some [.slice none 0 0, .slice none 0 0, .slice none 0 0, .slice none 0 0, .slice none 0 0] := by kernel_rfl
theorem T231 : tySz Try.prog 231 = some 5 ∧ tyAgg Try.prog 231 = some true ∧ tyBytes Try.prog 231 = some 120 ∧ fldsOk Try.prog 231 = true ∧ tyFld Try.prog 231 0 = some (0, 42) ∧ tyFld Try.prog 231 1 = some (1, 42) ∧ tyFld Try.prog 231 2 = some (2, 42) ∧ tyFld Try.prog 231 3 = some (3, 42) ∧ tyFld Try.prog 231 4 = some (4, 42) := by decide +kernel
theorem Z231 : tyZero Try.prog 231 = some [.slice none 0 0, .slice none 0 0, .slice none 0 0, .slice none 0 0, .slice none 0 0] := by kernel_rfl
theorem T242 : tySz Try.prog 242 = some 1 ∧ tyAgg Try.prog 242 = some false ∧ tyBytes Try.prog 242 = some 24 ∧ tyElem Try.prog 242 = some 4 := by decide +kernel
theorem Z242 : tyZero Try.prog 242 = some [.slice none 0 0] := by kernel_rfl
theorem T250 : tySz Try.prog 250 = some 4 ∧ tyAgg Try.prog 250 = some true ∧ tyBytes Try.prog 250 = some 40 ∧ fldsOk Try.prog 250 = true ∧ tyFld Try.prog 250 0 = some (0, 17) ∧ tyFld Try.prog 250 1 = some (1, 17) ∧ tyFld Try.prog 250 2 = some (2, 17) ∧ tyFld Try.prog 250 3 = some (3, 9) := by decide +kernel
theorem Z250 : tyZero Try.prog 250 = some [.pointer none, .pointer none, .pointer none, .string ⟨#[]⟩] := by kernel_rfl
theorem T251 : tySz Try.prog 251 = some 4 ∧ tyAgg Try.prog 251 = some true ∧ tyBytes Try.prog 251 = some 40 ∧ fldsOk Try.prog 251 = true ∧ tyFld Try.prog 251 0 = some (0, 17) ∧ tyFld Try.prog 251 1 = some (1, 17) ∧ tyFld Try.prog 251 2 = some (2, 17) ∧ tyFld Try.prog 251 3 = some (3, 9) := by decide +kernel
theorem Z251 : tyZero Try.prog 251 = some [.pointer none, .pointer none, .pointer none, .string ⟨#[]⟩] := by kernel_rfl
theorem T255 : tySz Try.prog 255 = some 1 ∧ tyAgg Try.prog 255 = some false ∧ tyBytes Try.prog 255 = some 1 := by decide +kernel
theorem Z255 : tyZero Try.prog 255 = some [.int .u8 0] := by kernel_rfl
theorem U255 : Try.prog.underlying 255 = some (.int .u8) := by kernel_rfl
theorem T256 : tySz Try.prog 256 = some 1 ∧ tyAgg Try.prog 256 = some false ∧ tyBytes Try.prog 256 = some 1 := by decide +kernel
theorem Z256 : tyZero Try.prog 256 = some [.int .u8 0] := by kernel_rfl
theorem U256 : Try.prog.underlying 256 = some (.int .u8) := by kernel_rfl
theorem T258 : tySz Try.prog 258 = some 1 ∧ tyAgg Try.prog 258 = some false ∧ tyBytes Try.prog 258 = some 8 := by decide +kernel
theorem Z258 : tyZero Try.prog 258 = some [.pointer none] := by kernel_rfl
theorem T259 : tySz Try.prog 259 = some 1 ∧ tyAgg Try.prog 259 = some false ∧ tyBytes Try.prog 259 = some 4 := by decide +kernel
theorem Z259 : tyZero Try.prog 259 = some [.int .i32 0] := by kernel_rfl
theorem U259 : Try.prog.underlying 259 = some (.int .i32) := by kernel_rfl
theorem T260 : tySz Try.prog 260 = some 1 ∧ tyAgg Try.prog 260 = some false ∧ tyBytes Try.prog 260 = some 4 := by decide +kernel
theorem Z260 : tyZero Try.prog 260 = some [.int .i32 0] := by kernel_rfl
theorem U260 : Try.prog.underlying 260 = some (.int .i32) := by kernel_rfl
theorem T261 : tySz Try.prog 261 = some 11 ∧ tyAgg Try.prog 261 = some true ∧ tyBytes Try.prog 261 = some 48 ∧ fldsOk Try.prog 261 = true ∧ tyFld Try.prog 261 0 = some (0, 12) ∧ tyFld Try.prog 261 1 = some (1, 12) ∧ tyFld Try.prog 261 2 = some (2, 133) ∧ tyFld Try.prog 261 3 = some (3, 255) ∧ tyFld Try.prog 261 4 = some (4, 5) ∧ tyFld Try.prog 261 5 = some (5, 5) ∧ tyFld Try.prog 261 6 = some (6, 256) ∧ tyFld Try.prog 261 7 = some (7, 257) ∧ tyFld Try.prog 261 8 = some (8, 258) ∧ tyFld Try.prog 261 9 = some (9, 259) ∧ tyFld Try.prog 261 10 = some (10, 260) := by decide +kernel
theorem Z261 : tyZero Try.prog 261 = some [.int .u64 0, .int .u64 0, .int .u32 0, .int .u8 0, .int .u8 0, .int .u8 0, .int .u8 0, .nilFunc, .pointer none, .int .i32 0, .int .i32 0] := by kernel_rfl
theorem T262 : tySz Try.prog 262 = some 11 ∧ tyAgg Try.prog 262 = some true ∧ tyBytes Try.prog 262 = some 48 ∧ fldsOk Try.prog 262 = true ∧ tyFld Try.prog 262 0 = some (0, 12) ∧ tyFld Try.prog 262 1 = some (1, 12) ∧ tyFld Try.prog 262 2 = some (2, 133) ∧ tyFld Try.prog 262 3 = some (3, 255) ∧ tyFld Try.prog 262 4 = some (4, 5) ∧ tyFld Try.prog 262 5 = some (5, 5) ∧ tyFld Try.prog 262 6 = some (6, 256) ∧ tyFld Try.prog 262 7 = some (7, 257) ∧ tyFld Try.prog 262 8 = some (8, 258) ∧ tyFld Try.prog 262 9 = some (9, 259) ∧ tyFld Try.prog 262 10 = some (10, 260) := by decide +kernel
theorem Z262 : tyZero Try.prog 262 = some [.int .u64 0, .int .u64 0, .int .u32 0, .int .u8 0, .int .u8 0, .int .u8 0, .int .u8 0, .nilFunc, .pointer none, .int .i32 0, .int .i32 0] := by kernel_rfl
attribute [push_cast] T2 Z2 U2 T3 Z3 U3 T4 Z4 U4 T5 Z5 U5 T6 Z6 U6 T7 Z7 T8 Z8 T9 Z9 U9 T10 Z10 U10 T11 Z11 U11 T12 Z12 U12 T13 Z13 T14 Z14 T15 Z15 T16 Z16 T17
attribute [push_cast] Z17 T18 Z18 T19 Z19 T21 Z21 U21 T22 Z22 T23 Z23 T24 Z24 T25 Z25 T26 Z26 T32 Z32 T34 Z34 T35 Z35 T42 Z42 T49 Z49 T50 Z50 T51 Z51 T52 Z52 T53 Z53 T54 Z54 T56 Z56
attribute [push_cast] T57 Z57 T58 Z58 T59 Z59 T68 Z68 T76 Z76 T84 Z84 T91 Z91 T92 Z92 T103 Z103 T105 Z105 T106 Z106 T114 Z114 T115 Z115 T125 Z125 T126 Z126 T127 Z127 T133 Z133 U133 T141 Z141 T142 Z142 T148
attribute [push_cast] Z148 T150 Z150 T151 Z151 T157 Z157 T160 Z160 T164 Z164 U164 T169 Z169 T170 Z170 T173 Z173 T181 Z181 T184 Z184 T185 Z185 T186 Z186 T187 Z187 T188 Z188 T190 Z190 T191 Z191 T199 Z199 T200 Z200 T201 Z201
attribute [push_cast] T205 Z205 T206 Z206 T208 Z208 T209 Z209 T210 Z210 T211 Z211 T212 Z212 T218 Z218 T225 Z225 T226 Z226 T228 Z228 T229 Z229 T230 Z230 T231 Z231 T242 Z242 T250 Z250 T251 Z251 T255 Z255 U255 T256 Z256 U256
attribute [push_cast] T258 Z258 T259 Z259 U259 T260 Z260 U260 T261 Z261 T262 Z262
end Go.Proofs.Ytennhlaibefacaa
