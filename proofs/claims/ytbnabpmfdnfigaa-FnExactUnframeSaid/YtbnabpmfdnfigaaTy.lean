/- What the types of this seat's program are: sizes, fields, zero values: each a closed fact. -/
import Derived.Test.YtbnabpmfdnfigaaProg
import Derived.Test.YtbnabpmfdnfigaaRxT
namespace Go.Proofs.Ytbnabpmfdnfigaa
open Go.Rx
theorem T2 : tySz Try.prog 2 = some 1 ∧ tyAgg Try.prog 2 = some false ∧ tyBytes Try.prog 2 = some 8 := by decide +kernel
theorem Z2 : tyZero Try.prog 2 = some [.int .i64 0] := by kernel_rfl
theorem U2 : Try.prog.underlying 2 = some (.int .i64) := by kernel_rfl
theorem T3 : tySz Try.prog 3 = some 1 ∧ tyAgg Try.prog 3 = some false ∧ tyBytes Try.prog 3 = some 8 := by decide +kernel
theorem Z3 : tyZero Try.prog 3 = some [.int .i64 0] := by kernel_rfl
theorem U3 : Try.prog.underlying 3 = some (.int .i64) := by kernel_rfl
theorem T4 : tySz Try.prog 4 = some 1 ∧ tyAgg Try.prog 4 = some false ∧ tyBytes Try.prog 4 = some 1 := by decide +kernel
theorem Z4 : tyZero Try.prog 4 = some [.bool false] := by kernel_rfl
theorem U4 : Try.prog.underlying 4 = some .bool := by kernel_rfl
theorem T5 : tySz Try.prog 5 = some 1 ∧ tyAgg Try.prog 5 = some false ∧ tyBytes Try.prog 5 = some 1 := by decide +kernel
theorem Z5 : tyZero Try.prog 5 = some [.int .u8 0] := by kernel_rfl
theorem U5 : Try.prog.underlying 5 = some (.int .u8) := by kernel_rfl
theorem T6 : tySz Try.prog 6 = some 1 ∧ tyAgg Try.prog 6 = some false ∧ tyBytes Try.prog 6 = some 1 := by decide +kernel
theorem Z6 : tyZero Try.prog 6 = some [.int .u8 0] := by kernel_rfl
theorem U6 : Try.prog.underlying 6 = some (.int .u8) := by kernel_rfl
theorem T7 : tySz Try.prog 7 = some 4 ∧ tyAgg Try.prog 7 = some true ∧ tyBytes Try.prog 7 = some 24 ∧ fldsOk Try.prog 7 = true ∧ tyFld Try.prog 7 0 = some (0, 2) ∧ tyFld Try.prog 7 1 = some (1, 3) ∧ tyFld Try.prog 7 2 = some (2, 4) ∧ tyFld Try.prog 7 3 = some (3, 6) := by decide +kernel
theorem Z7 : tyZero Try.prog 7 = some [.int .i64 0, .int .i64 0, .bool false, .int .u8 0] := by kernel_rfl
theorem T8 : tySz Try.prog 8 = some 4 ∧ tyAgg Try.prog 8 = some true ∧ tyBytes Try.prog 8 = some 24 ∧ fldsOk Try.prog 8 = true ∧ tyFld Try.prog 8 0 = some (0, 2) ∧ tyFld Try.prog 8 1 = some (1, 3) ∧ tyFld Try.prog 8 2 = some (2, 4) ∧ tyFld Try.prog 8 3 = some (3, 6) := by decide +kernel
theorem Z8 : tyZero Try.prog 8 = some [.int .i64 0, .int .i64 0, .bool false, .int .u8 0] := by kernel_rfl
theorem T9 : tySz Try.prog 9 = some 1 ∧ tyAgg Try.prog 9 = some false ∧ tyBytes Try.prog 9 = some 16 := by decide +kernel
theorem Z9 : tyZero Try.prog 9 = some [.string ⟨#[]⟩] := by kernel_rfl
theorem U9 : Try.prog.underlying 9 = some .string := by kernel_rfl
theorem T10 : tySz Try.prog 10 = some 1 ∧ tyAgg Try.prog 10 = some false ∧ tyBytes Try.prog 10 = some 16 := by decide +kernel
theorem Z10 : tyZero Try.prog 10 = some [.string ⟨#[]⟩] := by kernel_rfl
theorem U10 : Try.prog.underlying 10 = some .string := by kernel_rfl
theorem T11 : tySz Try.prog 11 = some 1 ∧ tyAgg Try.prog 11 = some false ∧ tyBytes Try.prog 11 = some 16 := by decide +kernel
theorem Z11 : tyZero Try.prog 11 = some [.string ⟨#[]⟩] := by kernel_rfl
theorem U11 : Try.prog.underlying 11 = some .string := by kernel_rfl
theorem T12 : tySz Try.prog 12 = some 1 ∧ tyAgg Try.prog 12 = some false ∧ tyBytes Try.prog 12 = some 8 := by decide +kernel
theorem Z12 : tyZero Try.prog 12 = some [.int .u64 0] := by kernel_rfl
theorem U12 : Try.prog.underlying 12 = some (.int .u64) := by kernel_rfl
theorem T13 : tySz Try.prog 13 = some 2 ∧ tyAgg Try.prog 13 = some true ∧ tyBytes Try.prog 13 = some 24 ∧ fldsOk Try.prog 13 = true ∧ tyFld Try.prog 13 0 = some (0, 9) ∧ tyFld Try.prog 13 1 = some (1, 12) := by decide +kernel
theorem Z13 : tyZero Try.prog 13 = some [.string ⟨#[]⟩, .int .u64 0] := by kernel_rfl
theorem T14 : tySz Try.prog 14 = some 2 ∧ tyAgg Try.prog 14 = some true ∧ tyBytes Try.prog 14 = some 24 ∧ fldsOk Try.prog 14 = true ∧ tyFld Try.prog 14 0 = some (0, 9) ∧ tyFld Try.prog 14 1 = some (1, 12) := by decide +kernel
theorem Z14 : tyZero Try.prog 14 = some [.string ⟨#[]⟩, .int .u64 0] := by kernel_rfl
theorem T15 : tySz Try.prog 15 = some 1 ∧ tyAgg Try.prog 15 = some false ∧ tyBytes Try.prog 15 = some 8 := by decide +kernel
theorem Z15 : tyZero Try.prog 15 = some [.pointer none] := by kernel_rfl
theorem T16 : tySz Try.prog 16 = some 1 ∧ tyAgg Try.prog 16 = some false ∧ tyBytes Try.prog 16 = some 8 := by decide +kernel
theorem Z16 : tyZero Try.prog 16 = some [.pointer none] := by kernel_rfl
theorem T17 : tySz Try.prog 17 = some 1 ∧ tyAgg Try.prog 17 = some false ∧ tyBytes Try.prog 17 = some 8 := by decide +kernel
theorem Z17 : tyZero Try.prog 17 = some [.pointer none] := by kernel_rfl
theorem T18 : tySz Try.prog 18 = some 1 ∧ tyAgg Try.prog 18 = some true ∧ tyBytes Try.prog 18 = some 8 ∧ fldsOk Try.prog 18 = true ∧ tyFld Try.prog 18 0 = some (0, 17) := by decide +kernel
theorem Z18 : tyZero Try.prog 18 = some [.pointer none] := by kernel_rfl
theorem T19 : tySz Try.prog 19 = some 1 ∧ tyAgg Try.prog 19 = some true ∧ tyBytes Try.prog 19 = some 8 ∧ fldsOk Try.prog 19 = true ∧ tyFld Try.prog 19 0 = some (0, 17) := by decide +kernel
theorem Z19 : tyZero Try.prog 19 = some [.pointer none] := by kernel_rfl
theorem T21 : tySz Try.prog 21 = some 1 ∧ tyAgg Try.prog 21 = some false ∧ tyBytes Try.prog 21 = some 4 := by decide +kernel
theorem Z21 : tyZero Try.prog 21 = some [.int .i32 0] := by kernel_rfl
theorem U21 : Try.prog.underlying 21 = some (.int .i32) := by kernel_rfl
theorem T22 : tySz Try.prog 22 = some 1 ∧ tyAgg Try.prog 22 = some false ∧ tyBytes Try.prog 22 = some 24 ∧ tyElem Try.prog 22 = some 60 := by decide +kernel
theorem Z22 : tyZero Try.prog 22 = some [.slice none 0 0] := by kernel_rfl
theorem T25 : tySz Try.prog 25 = some 1 ∧ tyAgg Try.prog 25 = some false ∧ tyBytes Try.prog 25 = some 24 ∧ tyElem Try.prog 25 = some 63 := by decide +kernel
theorem Z25 : tyZero Try.prog 25 = some [.slice none 0 0] := by kernel_rfl
theorem T29 : tySz Try.prog 29 = some 1 ∧ tyAgg Try.prog 29 = some false ∧ tyBytes Try.prog 29 = some 24 ∧ tyElem Try.prog 29 = some 73 := by decide +kernel
theorem Z29 : tyZero Try.prog 29 = some [.slice none 0 0] := by kernel_rfl
theorem T32 : tySz Try.prog 32 = some 1 ∧ tyAgg Try.prog 32 = some false ∧ tyBytes Try.prog 32 = some 24 ∧ tyElem Try.prog 32 = some 76 := by decide +kernel
theorem Z32 : tyZero Try.prog 32 = some [.slice none 0 0] := by kernel_rfl
theorem T36 : tySz Try.prog 36 = some 1 ∧ tyAgg Try.prog 36 = some false ∧ tyBytes Try.prog 36 = some 24 ∧ tyElem Try.prog 36 = some 85 := by decide +kernel
theorem Z36 : tyZero Try.prog 36 = some [.slice none 0 0] := by kernel_rfl
theorem T39 : tySz Try.prog 39 = some 1 ∧ tyAgg Try.prog 39 = some false ∧ tyBytes Try.prog 39 = some 24 ∧ tyElem Try.prog 39 = some 90 := by decide +kernel
theorem Z39 : tyZero Try.prog 39 = some [.slice none 0 0] := by kernel_rfl
theorem T43 : tySz Try.prog 43 = some 1 ∧ tyAgg Try.prog 43 = some false ∧ tyBytes Try.prog 43 = some 24 ∧ tyElem Try.prog 43 = some 5 := by decide +kernel
theorem Z43 : tyZero Try.prog 43 = some [.slice none 0 0] := by kernel_rfl
theorem T45 : tySz Try.prog 45 = some 1 ∧ tyAgg Try.prog 45 = some false ∧ tyBytes Try.prog 45 = some 24 ∧ tyElem Try.prog 45 = some 3 := by decide +kernel
theorem Z45 : tyZero Try.prog 45 = some [.slice none 0 0] := by kernel_rfl
theorem T48 : tySz Try.prog 48 = some 1 ∧ tyAgg Try.prog 48 = some false ∧ tyBytes Try.prog 48 = some 24 ∧ tyElem Try.prog 48 = some 9 := by decide +kernel
theorem Z48 : tyZero Try.prog 48 = some [.slice none 0 0] := by kernel_rfl
theorem T57 : tySz Try.prog 57 = some 3 ∧ tyAgg Try.prog 57 = some true ∧ tyBytes Try.prog 57 = some 32 ∧ fldsOk Try.prog 57 = true ∧ tyFld Try.prog 57 0 = some (0, 3) ∧ tyFld Try.prog 57 1 = some (1, 3) ∧ tyFld Try.prog 57 2 = some (2, 9) := by decide +kernel
theorem Z57 : tyZero Try.prog 57 = some [.int .i64 0, .int .i64 0, .string ⟨#[]⟩] := by kernel_rfl
theorem T58 : tySz Try.prog 58 = some 3 ∧ tyAgg Try.prog 58 = some true ∧ tyBytes Try.prog 58 = some 32 ∧ fldsOk Try.prog 58 = true ∧ tyFld Try.prog 58 0 = some (0, 3) ∧ tyFld Try.prog 58 1 = some (1, 3) ∧ tyFld Try.prog 58 2 = some (2, 9) := by decide +kernel
theorem Z58 : tyZero Try.prog 58 = some [.int .i64 0, .int .i64 0, .string ⟨#[]⟩] := by kernel_rfl
theorem T59 : tySz Try.prog 59 = some 6 ∧ tyAgg Try.prog 59 = some true ∧ tyBytes Try.prog 59 = some 56 ∧ fldsOk Try.prog 59 = true ∧ tyFld Try.prog 59 0 = some (0, 3) ∧ tyFld Try.prog 59 1 = some (1, 3) ∧ tyFld Try.prog 59 2 = some (2, 3) ∧ tyFld Try.prog 59 3 = some (3, 58) := by decide +kernel
theorem Z59 : tyZero Try.prog 59 = some [.int .i64 0, .int .i64 0, .int .i64 0, .int .i64 0, .int .i64 0, .string ⟨#[]⟩] := by kernel_rfl
theorem T60 : tySz Try.prog 60 = some 6 ∧ tyAgg Try.prog 60 = some true ∧ tyBytes Try.prog 60 = some 56 ∧ fldsOk Try.prog 60 = true ∧ tyFld Try.prog 60 0 = some (0, 3) ∧ tyFld Try.prog 60 1 = some (1, 3) ∧ tyFld Try.prog 60 2 = some (2, 3) ∧ tyFld Try.prog 60 3 = some (3, 58) := by decide +kernel
theorem Z60 : tyZero Try.prog 60 = some [.int .i64 0, .int .i64 0, .int .i64 0, .int .i64 0, .int .i64 0, .string ⟨#[]⟩] := by kernel_rfl
theorem T61 : tySz Try.prog 61 = some 3 ∧ tyAgg Try.prog 61 = some true ∧ tyBytes Try.prog 61 = some 32 ∧ fldsOk Try.prog 61 = true ∧ tyFld Try.prog 61 0 = some (0, 3) ∧ tyFld Try.prog 61 1 = some (1, 3) ∧ tyFld Try.prog 61 2 = some (2, 9) := by decide +kernel
theorem Z61 : tyZero Try.prog 61 = some [.int .i64 0, .int .i64 0, .string ⟨#[]⟩] := by kernel_rfl
theorem T62 : tySz Try.prog 62 = some 6 ∧ tyAgg Try.prog 62 = some true ∧ tyBytes Try.prog 62 = some 56 ∧ fldsOk Try.prog 62 = true ∧ tyFld Try.prog 62 0 = some (0, 3) ∧ tyFld Try.prog 62 1 = some (1, 3) ∧ tyFld Try.prog 62 2 = some (2, 3) ∧ tyFld Try.prog 62 3 = some (3, 61) := by decide +kernel
theorem Z62 : tyZero Try.prog 62 = some [.int .i64 0, .int .i64 0, .int .i64 0, .int .i64 0, .int .i64 0, .string ⟨#[]⟩] := by kernel_rfl
theorem T63 : tySz Try.prog 63 = some 6 ∧ tyAgg Try.prog 63 = some true ∧ tyBytes Try.prog 63 = some 56 ∧ fldsOk Try.prog 63 = true ∧ tyFld Try.prog 63 0 = some (0, 3) ∧ tyFld Try.prog 63 1 = some (1, 3) ∧ tyFld Try.prog 63 2 = some (2, 3) ∧ tyFld Try.prog 63 3 = some (3, 61) := by decide +kernel
theorem Z63 : tyZero Try.prog 63 = some [.int .i64 0, .int .i64 0, .int .i64 0, .int .i64 0, .int .i64 0, .string ⟨#[]⟩] := by kernel_rfl
theorem T70 : tySz Try.prog 70 = some 8 ∧ tyAgg Try.prog 70 = some true ∧ tyBytes Try.prog 70 = some 80 ∧ fldsOk Try.prog 70 = true ∧ tyFld Try.prog 70 0 = some (0, 3) ∧ tyFld Try.prog 70 1 = some (1, 3) ∧ tyFld Try.prog 70 2 = some (2, 3) ∧ tyFld Try.prog 70 3 = some (3, 9) ∧ tyFld Try.prog 70 4 = some (4, 9) ∧ tyFld Try.prog 70 5 = some (5, 3) ∧ tyFld Try.prog 70 6 = some (6, 3) ∧ tyFld Try.prog 70 7 = some (7, 4) := by decide +kernel
theorem Z70 : tyZero Try.prog 70 = some [.int .i64 0, .int .i64 0, .int .i64 0, .string ⟨#[]⟩, .string ⟨#[]⟩, .int .i64 0, .int .i64 0, .bool false] := by kernel_rfl
theorem T71 : tySz Try.prog 71 = some 8 ∧ tyAgg Try.prog 71 = some true ∧ tyBytes Try.prog 71 = some 80 ∧ fldsOk Try.prog 71 = true ∧ tyFld Try.prog 71 0 = some (0, 3) ∧ tyFld Try.prog 71 1 = some (1, 3) ∧ tyFld Try.prog 71 2 = some (2, 3) ∧ tyFld Try.prog 71 3 = some (3, 9) ∧ tyFld Try.prog 71 4 = some (4, 9) ∧ tyFld Try.prog 71 5 = some (5, 3) ∧ tyFld Try.prog 71 6 = some (6, 3) ∧ tyFld Try.prog 71 7 = some (7, 4) := by decide +kernel
theorem Z71 : tyZero Try.prog 71 = some [.int .i64 0, .int .i64 0, .int .i64 0, .string ⟨#[]⟩, .string ⟨#[]⟩, .int .i64 0, .int .i64 0, .bool false] := by kernel_rfl
theorem T72 : tySz Try.prog 72 = some 12 ∧ tyAgg Try.prog 72 = some true ∧ tyBytes Try.prog 72 = some 120 ∧ fldsOk Try.prog 72 = true ∧ tyFld Try.prog 72 0 = some (0, 3) ∧ tyFld Try.prog 72 1 = some (1, 3) ∧ tyFld Try.prog 72 2 = some (2, 3) ∧ tyFld Try.prog 72 3 = some (3, 71) ∧ tyFld Try.prog 72 4 = some (11, 9) := by decide +kernel
theorem Z72 : tyZero Try.prog 72 = some [.int .i64 0, .int .i64 0, .int .i64 0, .int .i64 0, .int .i64 0, .int .i64 0, .string ⟨#[]⟩, .string ⟨#[]⟩, .int .i64 0, .int .i64 0, .bool false, .string ⟨#[]⟩] := by kernel_rfl
theorem T73 : tySz Try.prog 73 = some 12 ∧ tyAgg Try.prog 73 = some true ∧ tyBytes Try.prog 73 = some 120 ∧ fldsOk Try.prog 73 = true ∧ tyFld Try.prog 73 0 = some (0, 3) ∧ tyFld Try.prog 73 1 = some (1, 3) ∧ tyFld Try.prog 73 2 = some (2, 3) ∧ tyFld Try.prog 73 3 = some (3, 71) ∧ tyFld Try.prog 73 4 = some (11, 9) := by decide +kernel
theorem Z73 : tyZero Try.prog 73 = some [.int .i64 0, .int .i64 0, .int .i64 0, .int .i64 0, .int .i64 0, .int .i64 0, .string ⟨#[]⟩, .string ⟨#[]⟩, .int .i64 0, .int .i64 0, .bool false, .string ⟨#[]⟩] := by kernel_rfl
theorem T74 : tySz Try.prog 74 = some 8 ∧ tyAgg Try.prog 74 = some true ∧ tyBytes Try.prog 74 = some 80 ∧ fldsOk Try.prog 74 = true ∧ tyFld Try.prog 74 0 = some (0, 3) ∧ tyFld Try.prog 74 1 = some (1, 3) ∧ tyFld Try.prog 74 2 = some (2, 3) ∧ tyFld Try.prog 74 3 = some (3, 9) ∧ tyFld Try.prog 74 4 = some (4, 9) ∧ tyFld Try.prog 74 5 = some (5, 3) ∧ tyFld Try.prog 74 6 = some (6, 3) ∧ tyFld Try.prog 74 7 = some (7, 4) := by decide +kernel
theorem Z74 : tyZero Try.prog 74 = some [.int .i64 0, .int .i64 0, .int .i64 0, .string ⟨#[]⟩, .string ⟨#[]⟩, .int .i64 0, .int .i64 0, .bool false] := by kernel_rfl
theorem T75 : tySz Try.prog 75 = some 12 ∧ tyAgg Try.prog 75 = some true ∧ tyBytes Try.prog 75 = some 120 ∧ fldsOk Try.prog 75 = true ∧ tyFld Try.prog 75 0 = some (0, 3) ∧ tyFld Try.prog 75 1 = some (1, 3) ∧ tyFld Try.prog 75 2 = some (2, 3) ∧ tyFld Try.prog 75 3 = some (3, 74) ∧ tyFld Try.prog 75 4 = some (11, 9) := by decide +kernel
theorem Z75 : tyZero Try.prog 75 = some [.int .i64 0, .int .i64 0, .int .i64 0, .int .i64 0, .int .i64 0, .int .i64 0, .string ⟨#[]⟩, .string ⟨#[]⟩, .int .i64 0, .int .i64 0, .bool false, .string ⟨#[]⟩] := by kernel_rfl
theorem T76 : tySz Try.prog 76 = some 12 ∧ tyAgg Try.prog 76 = some true ∧ tyBytes Try.prog 76 = some 120 ∧ fldsOk Try.prog 76 = true ∧ tyFld Try.prog 76 0 = some (0, 3) ∧ tyFld Try.prog 76 1 = some (1, 3) ∧ tyFld Try.prog 76 2 = some (2, 3) ∧ tyFld Try.prog 76 3 = some (3, 74) ∧ tyFld Try.prog 76 4 = some (11, 9) := by decide +kernel
theorem Z76 : tyZero Try.prog 76 = some [.int .i64 0, .int .i64 0, .int .i64 0, .int .i64 0, .int .i64 0, .int .i64 0, .string ⟨#[]⟩, .string ⟨#[]⟩, .int .i64 0, .int .i64 0, .bool false, .string ⟨#[]⟩] := by kernel_rfl
theorem T81 : tySz Try.prog 81 = some 1 ∧ tyAgg Try.prog 81 = some false ∧ tyBytes Try.prog 81 = some 24 ∧ tyElem Try.prog 81 = some 58 := by decide +kernel
theorem Z81 : tyZero Try.prog 81 = some [.slice none 0 0] := by kernel_rfl
theorem T82 : tySz Try.prog 82 = some 3 ∧ tyAgg Try.prog 82 = some true ∧ tyBytes Try.prog 82 = some 40 ∧ fldsOk Try.prog 82 = true ∧ tyFld Try.prog 82 0 = some (0, 3) ∧ tyFld Try.prog 82 1 = some (1, 3) ∧ tyFld Try.prog 82 2 = some (2, 81) := by decide +kernel
theorem Z82 : tyZero Try.prog 82 = some [.int .i64 0, .int .i64 0, .slice none 0 0] := by kernel_rfl
theorem T83 : tySz Try.prog 83 = some 3 ∧ tyAgg Try.prog 83 = some true ∧ tyBytes Try.prog 83 = some 40 ∧ fldsOk Try.prog 83 = true ∧ tyFld Try.prog 83 0 = some (0, 3) ∧ tyFld Try.prog 83 1 = some (1, 3) ∧ tyFld Try.prog 83 2 = some (2, 81) := by decide +kernel
theorem Z83 : tyZero Try.prog 83 = some [.int .i64 0, .int .i64 0, .slice none 0 0] := by kernel_rfl
theorem T84 : tySz Try.prog 84 = some 5 ∧ tyAgg Try.prog 84 = some true ∧ tyBytes Try.prog 84 = some 56 ∧ fldsOk Try.prog 84 = true ∧ tyFld Try.prog 84 0 = some (0, 3) ∧ tyFld Try.prog 84 1 = some (1, 3) ∧ tyFld Try.prog 84 2 = some (2, 83) := by decide +kernel
theorem Z84 : tyZero Try.prog 84 = some [.int .i64 0, .int .i64 0, .int .i64 0, .int .i64 0, .slice none 0 0] := by kernel_rfl
theorem T85 : tySz Try.prog 85 = some 5 ∧ tyAgg Try.prog 85 = some true ∧ tyBytes Try.prog 85 = some 56 ∧ fldsOk Try.prog 85 = true ∧ tyFld Try.prog 85 0 = some (0, 3) ∧ tyFld Try.prog 85 1 = some (1, 3) ∧ tyFld Try.prog 85 2 = some (2, 83) := by decide +kernel
theorem Z85 : tyZero Try.prog 85 = some [.int .i64 0, .int .i64 0, .int .i64 0, .int .i64 0, .slice none 0 0] := by kernel_rfl
theorem T86 : tySz Try.prog 86 = some 1 ∧ tyAgg Try.prog 86 = some false ∧ tyBytes Try.prog 86 = some 24 ∧ tyElem Try.prog 86 = some 61 := by decide +kernel
theorem Z86 : tyZero Try.prog 86 = some [.slice none 0 0] := by kernel_rfl
theorem T87 : tySz Try.prog 87 = some 3 ∧ tyAgg Try.prog 87 = some true ∧ tyBytes Try.prog 87 = some 40 ∧ fldsOk Try.prog 87 = true ∧ tyFld Try.prog 87 0 = some (0, 3) ∧ tyFld Try.prog 87 1 = some (1, 3) ∧ tyFld Try.prog 87 2 = some (2, 86) := by decide +kernel
theorem Z87 : tyZero Try.prog 87 = some [.int .i64 0, .int .i64 0, .slice none 0 0] := by kernel_rfl
theorem T88 : tySz Try.prog 88 = some 3 ∧ tyAgg Try.prog 88 = some true ∧ tyBytes Try.prog 88 = some 40 ∧ fldsOk Try.prog 88 = true ∧ tyFld Try.prog 88 0 = some (0, 3) ∧ tyFld Try.prog 88 1 = some (1, 3) ∧ tyFld Try.prog 88 2 = some (2, 86) := by decide +kernel
theorem Z88 : tyZero Try.prog 88 = some [.int .i64 0, .int .i64 0, .slice none 0 0] := by kernel_rfl
theorem T89 : tySz Try.prog 89 = some 5 ∧ tyAgg Try.prog 89 = some true ∧ tyBytes Try.prog 89 = some 56 ∧ fldsOk Try.prog 89 = true ∧ tyFld Try.prog 89 0 = some (0, 3) ∧ tyFld Try.prog 89 1 = some (1, 3) ∧ tyFld Try.prog 89 2 = some (2, 88) := by decide +kernel
theorem Z89 : tyZero Try.prog 89 = some [.int .i64 0, .int .i64 0, .int .i64 0, .int .i64 0, .slice none 0 0] := by kernel_rfl
theorem T90 : tySz Try.prog 90 = some 5 ∧ tyAgg Try.prog 90 = some true ∧ tyBytes Try.prog 90 = some 56 ∧ fldsOk Try.prog 90 = true ∧ tyFld Try.prog 90 0 = some (0, 3) ∧ tyFld Try.prog 90 1 = some (1, 3) ∧ tyFld Try.prog 90 2 = some (2, 88) := by decide +kernel
theorem Z90 : tyZero Try.prog 90 = some [.int .i64 0, .int .i64 0, .int .i64 0, .int .i64 0, .slice none 0 0] := by kernel_rfl
theorem T95 : tySz Try.prog 95 = some 1 ∧ tyAgg Try.prog 95 = some false ∧ tyBytes Try.prog 95 = some 8 := by decide +kernel
theorem Z95 : tyZero Try.prog 95 = some [.pointer none] := by kernel_rfl
theorem T119 : tySz Try.prog 119 = some 3 ∧ tyAgg Try.prog 119 = some true ∧ tyBytes Try.prog 119 = some 40 ∧ fldsOk Try.prog 119 = true ∧ tyFld Try.prog 119 0 = some (0, 43) ∧ tyFld Try.prog 119 1 = some (1, 3) ∧ tyFld Try.prog 119 2 = some (2, 3) := by decide +kernel
theorem Z119 : tyZero Try.prog 119 = some [.slice none 0 0, .int .i64 0, .int .i64 0] := by kernel_rfl
theorem T120 : tySz Try.prog 120 = some 3 ∧ tyAgg Try.prog 120 = some true ∧ tyBytes Try.prog 120 = some 40 ∧ fldsOk Try.prog 120 = true ∧ tyFld Try.prog 120 0 = some (0, 43) ∧ tyFld Try.prog 120 1 = some (1, 3) ∧ tyFld Try.prog 120 2 = some (2, 3) := by decide +kernel
theorem Z120 : tyZero Try.prog 120 = some [.slice none 0 0, .int .i64 0, .int .i64 0] := by kernel_rfl
theorem T121 : tySz Try.prog 121 = some 1 ∧ tyAgg Try.prog 121 = some false ∧ tyBytes Try.prog 121 = some 8 := by decide +kernel
theorem Z121 : tyZero Try.prog 121 = some [.int .u64 0] := by kernel_rfl
theorem U121 : Try.prog.underlying 121 = some (.int .u64) := by kernel_rfl
theorem T125 : tySz Try.prog 125 = some 1 ∧ tyAgg Try.prog 125 = some false ∧ tyBytes Try.prog 125 = some 4 := by decide +kernel
theorem Z125 : tyZero Try.prog 125 = some [.int .u32 0] := by kernel_rfl
theorem U125 : Try.prog.underlying 125 = some (.int .u32) := by kernel_rfl
theorem T130 : tySz Try.prog 130 = some 3 ∧ tyAgg Try.prog 130 = some true ∧ tyBytes Try.prog 130 = some 32 ∧ fldsOk Try.prog 130 = true ∧ tyFld Try.prog 130 0 = some (0, 9) ∧ tyFld Try.prog 130 1 = some (1, 3) ∧ tyFld Try.prog 130 2 = some (2, 4) := by decide +kernel
theorem Z130 : tyZero Try.prog 130 = some [.string ⟨#[]⟩, .int .i64 0, .bool false] := by kernel_rfl
theorem T131 : tySz Try.prog 131 = some 3 ∧ tyAgg Try.prog 131 = some true ∧ tyBytes Try.prog 131 = some 32 ∧ fldsOk Try.prog 131 = true ∧ tyFld Try.prog 131 0 = some (0, 9) ∧ tyFld Try.prog 131 1 = some (1, 3) ∧ tyFld Try.prog 131 2 = some (2, 4) := by decide +kernel
theorem Z131 : tyZero Try.prog 131 = some [.string ⟨#[]⟩, .int .i64 0, .bool false] := by kernel_rfl
theorem T134 : tySz Try.prog 134 = some 1 ∧ tyAgg Try.prog 134 = some false ∧ tyBytes Try.prog 134 = some 8 := by decide +kernel
theorem Z134 : tyZero Try.prog 134 = some [.pointer none] := by kernel_rfl
theorem T136 : tySz Try.prog 136 = some 4 ∧ tyAgg Try.prog 136 = some true ∧ tyBytes Try.prog 136 = some 40 ∧ fldsOk Try.prog 136 = true ∧ tyFld Try.prog 136 0 = some (0, 17) ∧ tyFld Try.prog 136 1 = some (1, 17) ∧ tyFld Try.prog 136 2 = some (2, 17) ∧ tyFld Try.prog 136 3 = some (3, 9) := by decide +kernel
theorem Z136 : tyZero Try.prog 136 = some [.pointer none, .pointer none, .pointer none, .string ⟨#[]⟩] := by kernel_rfl
theorem T137 : tySz Try.prog 137 = some 4 ∧ tyAgg Try.prog 137 = some true ∧ tyBytes Try.prog 137 = some 40 ∧ fldsOk Try.prog 137 = true ∧ tyFld Try.prog 137 0 = some (0, 17) ∧ tyFld Try.prog 137 1 = some (1, 17) ∧ tyFld Try.prog 137 2 = some (2, 17) ∧ tyFld Try.prog 137 3 = some (3, 9) := by decide +kernel
theorem Z137 : tyZero Try.prog 137 = some [.pointer none, .pointer none, .pointer none, .string ⟨#[]⟩] := by kernel_rfl
theorem T141 : tySz Try.prog 141 = some 1 ∧ tyAgg Try.prog 141 = some false ∧ tyBytes Try.prog 141 = some 1 := by decide +kernel
theorem Z141 : tyZero Try.prog 141 = some [.int .u8 0] := by kernel_rfl
theorem U141 : Try.prog.underlying 141 = some (.int .u8) := by kernel_rfl
theorem T142 : tySz Try.prog 142 = some 1 ∧ tyAgg Try.prog 142 = some false ∧ tyBytes Try.prog 142 = some 1 := by decide +kernel
theorem Z142 : tyZero Try.prog 142 = some [.int .u8 0] := by kernel_rfl
theorem U142 : Try.prog.underlying 142 = some (.int .u8) := by kernel_rfl
theorem T144 : tySz Try.prog 144 = some 1 ∧ tyAgg Try.prog 144 = some false ∧ tyBytes Try.prog 144 = some 8 := by decide +kernel
theorem Z144 : tyZero Try.prog 144 = some [.pointer none] := by kernel_rfl
theorem T145 : tySz Try.prog 145 = some 1 ∧ tyAgg Try.prog 145 = some false ∧ tyBytes Try.prog 145 = some 4 := by decide +kernel
theorem Z145 : tyZero Try.prog 145 = some [.int .i32 0] := by kernel_rfl
theorem U145 : Try.prog.underlying 145 = some (.int .i32) := by kernel_rfl
theorem T146 : tySz Try.prog 146 = some 1 ∧ tyAgg Try.prog 146 = some false ∧ tyBytes Try.prog 146 = some 4 := by decide +kernel
theorem Z146 : tyZero Try.prog 146 = some [.int .i32 0] := by kernel_rfl
theorem U146 : Try.prog.underlying 146 = some (.int .i32) := by kernel_rfl
theorem T147 : tySz Try.prog 147 = some 11 ∧ tyAgg Try.prog 147 = some true ∧ tyBytes Try.prog 147 = some 48 ∧ fldsOk Try.prog 147 = true ∧ tyFld Try.prog 147 0 = some (0, 12) ∧ tyFld Try.prog 147 1 = some (1, 12) ∧ tyFld Try.prog 147 2 = some (2, 125) ∧ tyFld Try.prog 147 3 = some (3, 141) ∧ tyFld Try.prog 147 4 = some (4, 5) ∧ tyFld Try.prog 147 5 = some (5, 5) ∧ tyFld Try.prog 147 6 = some (6, 142) ∧ tyFld Try.prog 147 7 = some (7, 143) ∧ tyFld Try.prog 147 8 = some (8, 144) ∧ tyFld Try.prog 147 9 = some (9, 145) ∧ tyFld Try.prog 147 10 = some (10, 146) := by decide +kernel
theorem Z147 : tyZero Try.prog 147 = some [.int .u64 0, .int .u64 0, .int .u32 0, .int .u8 0, .int .u8 0, .int .u8 0, .int .u8 0, .nilFunc, .pointer none, .int .i32 0, .int .i32 0] := by kernel_rfl
theorem T148 : tySz Try.prog 148 = some 11 ∧ tyAgg Try.prog 148 = some true ∧ tyBytes Try.prog 148 = some 48 ∧ fldsOk Try.prog 148 = true ∧ tyFld Try.prog 148 0 = some (0, 12) ∧ tyFld Try.prog 148 1 = some (1, 12) ∧ tyFld Try.prog 148 2 = some (2, 125) ∧ tyFld Try.prog 148 3 = some (3, 141) ∧ tyFld Try.prog 148 4 = some (4, 5) ∧ tyFld Try.prog 148 5 = some (5, 5) ∧ tyFld Try.prog 148 6 = some (6, 142) ∧ tyFld Try.prog 148 7 = some (7, 143) ∧ tyFld Try.prog 148 8 = some (8, 144) ∧ tyFld Try.prog 148 9 = some (9, 145) ∧ tyFld Try.prog 148 10 = some (10, 146) := by decide +kernel
theorem Z148 : tyZero Try.prog 148 = some [.int .u64 0, .int .u64 0, .int .u32 0, .int .u8 0, .int .u8 0, .int .u8 0, .int .u8 0, .nilFunc, .pointer none, .int .i32 0, .int .i32 0] := by kernel_rfl
attribute [push_cast] T2 Z2 U2 T3 Z3 U3 T4 Z4 U4 T5 Z5 U5 T6 Z6 U6 T7 Z7 T8 Z8 T9 Z9 U9 T10 Z10 U10 T11 Z11 U11 T12 Z12 U12 T13 Z13 T14 Z14 T15 Z15 T16 Z16 T17
attribute [push_cast] Z17 T18 Z18 T19 Z19 T21 Z21 U21 T22 Z22 T25 Z25 T29 Z29 T32 Z32 T36 Z36 T39 Z39 T43 Z43 T45 Z45 T48 Z48 T57 Z57 T58 Z58 T59 Z59 T60 Z60 T61 Z61 T62 Z62 T63 Z63
attribute [push_cast] T70 Z70 T71 Z71 T72 Z72 T73 Z73 T74 Z74 T75 Z75 T76 Z76 T81 Z81 T82 Z82 T83 Z83 T84 Z84 T85 Z85 T86 Z86 T87 Z87 T88 Z88 T89 Z89 T90 Z90 T95 Z95 T119 Z119 T120 Z120
attribute [push_cast] T121 Z121 U121 T125 Z125 U125 T130 Z130 T131 Z131 T134 Z134 T136 Z136 T137 Z137 T141 Z141 U141 T142 Z142 U142 T144 Z144 T145 Z145 U145 T146 Z146 U146 T147 Z147 T148 Z148
end Go.Proofs.Ytbnabpmfdnfigaa
