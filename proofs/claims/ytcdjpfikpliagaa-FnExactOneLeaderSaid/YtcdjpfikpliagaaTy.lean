/- What the types of this seat's program are: sizes, fields, zero values: each a closed fact. -/
import Derived.Test.YtcdjpfikpliagaaProg
import Derived.Test.YtcdjpfikpliagaaRxIII
namespace Go.Proofs.Ytcdjpfikpliagaa
open Go.Rx
theorem T2 : tySz Try.prog 2 = some 1 ∧ tyAgg Try.prog 2 = some false ∧ tyBytes Try.prog 2 = some 8 := by decide +kernel
theorem Z2 : tyZero Try.prog 2 = some [.int .i64 0] := by kernel_rfl
theorem U2 : Try.prog.underlying 2 = some (.int .i64) := by kernel_rfl
theorem T3 : tySz Try.prog 3 = some 1 ∧ tyAgg Try.prog 3 = some false ∧ tyBytes Try.prog 3 = some 8 := by decide +kernel
theorem Z3 : tyZero Try.prog 3 = some [.int .i64 0] := by kernel_rfl
theorem U3 : Try.prog.underlying 3 = some (.int .i64) := by kernel_rfl
theorem T4 : tySz Try.prog 4 = some 1 ∧ tyAgg Try.prog 4 = some false ∧ tyBytes Try.prog 4 = some 1 := by decide +kernel
theorem Z4 : tyZero Try.prog 4 = some [.bool false] := by kernel_rfl
theorem U4 : Try.prog.underlying 4 = some .bool := by kernel_rfl
theorem T5 : tySz Try.prog 5 = some 1 ∧ tyAgg Try.prog 5 = some false ∧ tyBytes Try.prog 5 = some 1 := by decide +kernel
theorem Z5 : tyZero Try.prog 5 = some [.int .u8 0] := by kernel_rfl
theorem U5 : Try.prog.underlying 5 = some (.int .u8) := by kernel_rfl
theorem T6 : tySz Try.prog 6 = some 1 ∧ tyAgg Try.prog 6 = some false ∧ tyBytes Try.prog 6 = some 1 := by decide +kernel
theorem Z6 : tyZero Try.prog 6 = some [.int .u8 0] := by kernel_rfl
theorem U6 : Try.prog.underlying 6 = some (.int .u8) := by kernel_rfl
theorem T7 : tySz Try.prog 7 = some 4 ∧ tyAgg Try.prog 7 = some true ∧ tyBytes Try.prog 7 = some 24 ∧ fldsOk Try.prog 7 = true ∧ tyFld Try.prog 7 0 = some (0, 2) ∧ tyFld Try.prog 7 1 = some (1, 3) ∧ tyFld Try.prog 7 2 = some (2, 4) ∧ tyFld Try.prog 7 3 = some (3, 6) := by decide +kernel
theorem Z7 : tyZero Try.prog 7 = some [.int .i64 0, .int .i64 0, .bool false, .int .u8 0] := by kernel_rfl
theorem T8 : tySz Try.prog 8 = some 4 ∧ tyAgg Try.prog 8 = some true ∧ tyBytes Try.prog 8 = some 24 ∧ fldsOk Try.prog 8 = true ∧ tyFld Try.prog 8 0 = some (0, 2) ∧ tyFld Try.prog 8 1 = some (1, 3) ∧ tyFld Try.prog 8 2 = some (2, 4) ∧ tyFld Try.prog 8 3 = some (3, 6) := by decide +kernel
theorem Z8 : tyZero Try.prog 8 = some [.int .i64 0, .int .i64 0, .bool false, .int .u8 0] := by kernel_rfl
theorem T9 : tySz Try.prog 9 = some 1 ∧ tyAgg Try.prog 9 = some false ∧ tyBytes Try.prog 9 = some 16 := by decide +kernel
theorem Z9 : tyZero Try.prog 9 = some [.string ⟨#[]⟩] := by kernel_rfl
theorem U9 : Try.prog.underlying 9 = some .string := by kernel_rfl
theorem T10 : tySz Try.prog 10 = some 1 ∧ tyAgg Try.prog 10 = some false ∧ tyBytes Try.prog 10 = some 16 := by decide +kernel
theorem Z10 : tyZero Try.prog 10 = some [.string ⟨#[]⟩] := by kernel_rfl
theorem U10 : Try.prog.underlying 10 = some .string := by kernel_rfl
theorem T11 : tySz Try.prog 11 = some 1 ∧ tyAgg Try.prog 11 = some false ∧ tyBytes Try.prog 11 = some 16 := by decide +kernel
theorem Z11 : tyZero Try.prog 11 = some [.string ⟨#[]⟩] := by kernel_rfl
theorem U11 : Try.prog.underlying 11 = some .string := by kernel_rfl
theorem T12 : tySz Try.prog 12 = some 1 ∧ tyAgg Try.prog 12 = some false ∧ tyBytes Try.prog 12 = some 8 := by decide +kernel
theorem Z12 : tyZero Try.prog 12 = some [.int .u64 0] := by kernel_rfl
theorem U12 : Try.prog.underlying 12 = some (.int .u64) := by kernel_rfl
theorem T13 : tySz Try.prog 13 = some 2 ∧ tyAgg Try.prog 13 = some true ∧ tyBytes Try.prog 13 = some 24 ∧ fldsOk Try.prog 13 = true ∧ tyFld Try.prog 13 0 = some (0, 9) ∧ tyFld Try.prog 13 1 = some (1, 12) := by decide +kernel
theorem Z13 : tyZero Try.prog 13 = some [.string ⟨#[]⟩, .int .u64 0] := by kernel_rfl
theorem T14 : tySz Try.prog 14 = some 2 ∧ tyAgg Try.prog 14 = some true ∧ tyBytes Try.prog 14 = some 24 ∧ fldsOk Try.prog 14 = true ∧ tyFld Try.prog 14 0 = some (0, 9) ∧ tyFld Try.prog 14 1 = some (1, 12) := by decide +kernel
theorem Z14 : tyZero Try.prog 14 = some [.string ⟨#[]⟩, .int .u64 0] := by kernel_rfl
theorem T15 : tySz Try.prog 15 = some 1 ∧ tyAgg Try.prog 15 = some false ∧ tyBytes Try.prog 15 = some 8 := by decide +kernel
theorem Z15 : tyZero Try.prog 15 = some [.pointer none] := by kernel_rfl
theorem T16 : tySz Try.prog 16 = some 1 ∧ tyAgg Try.prog 16 = some false ∧ tyBytes Try.prog 16 = some 8 := by decide +kernel
theorem Z16 : tyZero Try.prog 16 = some [.pointer none] := by kernel_rfl
theorem T17 : tySz Try.prog 17 = some 1 ∧ tyAgg Try.prog 17 = some false ∧ tyBytes Try.prog 17 = some 8 := by decide +kernel
theorem Z17 : tyZero Try.prog 17 = some [.pointer none] := by kernel_rfl
theorem T18 : tySz Try.prog 18 = some 1 ∧ tyAgg Try.prog 18 = some true ∧ tyBytes Try.prog 18 = some 8 ∧ fldsOk Try.prog 18 = true ∧ tyFld Try.prog 18 0 = some (0, 17) := by decide +kernel
theorem Z18 : tyZero Try.prog 18 = some [.pointer none] := by kernel_rfl
theorem T19 : tySz Try.prog 19 = some 1 ∧ tyAgg Try.prog 19 = some true ∧ tyBytes Try.prog 19 = some 8 ∧ fldsOk Try.prog 19 = true ∧ tyFld Try.prog 19 0 = some (0, 17) := by decide +kernel
theorem Z19 : tyZero Try.prog 19 = some [.pointer none] := by kernel_rfl
theorem T21 : tySz Try.prog 21 = some 1 ∧ tyAgg Try.prog 21 = some false ∧ tyBytes Try.prog 21 = some 4 := by decide +kernel
theorem Z21 : tyZero Try.prog 21 = some [.int .i32 0] := by kernel_rfl
theorem U21 : Try.prog.underlying 21 = some (.int .i32) := by kernel_rfl
theorem T22 : tySz Try.prog 22 = some 1 ∧ tyAgg Try.prog 22 = some false ∧ tyBytes Try.prog 22 = some 24 ∧ tyElem Try.prog 22 = some 46 := by decide +kernel
theorem Z22 : tyZero Try.prog 22 = some [.slice none 0 0] := by kernel_rfl
theorem T25 : tySz Try.prog 25 = some 1 ∧ tyAgg Try.prog 25 = some false ∧ tyBytes Try.prog 25 = some 24 ∧ tyElem Try.prog 25 = some 49 := by decide +kernel
theorem Z25 : tyZero Try.prog 25 = some [.slice none 0 0] := by kernel_rfl
theorem T29 : tySz Try.prog 29 = some 1 ∧ tyAgg Try.prog 29 = some false ∧ tyBytes Try.prog 29 = some 24 ∧ tyElem Try.prog 29 = some 60 := by decide +kernel
theorem Z29 : tyZero Try.prog 29 = some [.slice none 0 0] := by kernel_rfl
theorem T32 : tySz Try.prog 32 = some 1 ∧ tyAgg Try.prog 32 = some false ∧ tyBytes Try.prog 32 = some 24 ∧ tyElem Try.prog 32 = some 64 := by decide +kernel
theorem Z32 : tyZero Try.prog 32 = some [.slice none 0 0] := by kernel_rfl
theorem T36 : tySz Try.prog 36 = some 1 ∧ tyAgg Try.prog 36 = some false ∧ tyBytes Try.prog 36 = some 24 ∧ tyElem Try.prog 36 = some 47 := by decide +kernel
theorem Z36 : tyZero Try.prog 36 = some [.slice none 0 0] := by kernel_rfl
theorem T43 : tySz Try.prog 43 = some 3 ∧ tyAgg Try.prog 43 = some true ∧ tyBytes Try.prog 43 = some 32 ∧ fldsOk Try.prog 43 = true ∧ tyFld Try.prog 43 0 = some (0, 3) ∧ tyFld Try.prog 43 1 = some (1, 3) ∧ tyFld Try.prog 43 2 = some (2, 9) := by decide +kernel
theorem Z43 : tyZero Try.prog 43 = some [.int .i64 0, .int .i64 0, .string ⟨#[]⟩] := by kernel_rfl
theorem T44 : tySz Try.prog 44 = some 3 ∧ tyAgg Try.prog 44 = some true ∧ tyBytes Try.prog 44 = some 32 ∧ fldsOk Try.prog 44 = true ∧ tyFld Try.prog 44 0 = some (0, 3) ∧ tyFld Try.prog 44 1 = some (1, 3) ∧ tyFld Try.prog 44 2 = some (2, 9) := by decide +kernel
theorem Z44 : tyZero Try.prog 44 = some [.int .i64 0, .int .i64 0, .string ⟨#[]⟩] := by kernel_rfl
theorem T45 : tySz Try.prog 45 = some 6 ∧ tyAgg Try.prog 45 = some true ∧ tyBytes Try.prog 45 = some 56 ∧ fldsOk Try.prog 45 = true ∧ tyFld Try.prog 45 0 = some (0, 3) ∧ tyFld Try.prog 45 1 = some (1, 3) ∧ tyFld Try.prog 45 2 = some (2, 3) ∧ tyFld Try.prog 45 3 = some (3, 44) := by decide +kernel
theorem Z45 : tyZero Try.prog 45 = some [.int .i64 0, .int .i64 0, .int .i64 0, .int .i64 0, .int .i64 0, .string ⟨#[]⟩] := by kernel_rfl
theorem T46 : tySz Try.prog 46 = some 6 ∧ tyAgg Try.prog 46 = some true ∧ tyBytes Try.prog 46 = some 56 ∧ fldsOk Try.prog 46 = true ∧ tyFld Try.prog 46 0 = some (0, 3) ∧ tyFld Try.prog 46 1 = some (1, 3) ∧ tyFld Try.prog 46 2 = some (2, 3) ∧ tyFld Try.prog 46 3 = some (3, 44) := by decide +kernel
theorem Z46 : tyZero Try.prog 46 = some [.int .i64 0, .int .i64 0, .int .i64 0, .int .i64 0, .int .i64 0, .string ⟨#[]⟩] := by kernel_rfl
theorem T47 : tySz Try.prog 47 = some 3 ∧ tyAgg Try.prog 47 = some true ∧ tyBytes Try.prog 47 = some 32 ∧ fldsOk Try.prog 47 = true ∧ tyFld Try.prog 47 0 = some (0, 3) ∧ tyFld Try.prog 47 1 = some (1, 3) ∧ tyFld Try.prog 47 2 = some (2, 9) := by decide +kernel
theorem Z47 : tyZero Try.prog 47 = some [.int .i64 0, .int .i64 0, .string ⟨#[]⟩] := by kernel_rfl
theorem T48 : tySz Try.prog 48 = some 6 ∧ tyAgg Try.prog 48 = some true ∧ tyBytes Try.prog 48 = some 56 ∧ fldsOk Try.prog 48 = true ∧ tyFld Try.prog 48 0 = some (0, 3) ∧ tyFld Try.prog 48 1 = some (1, 3) ∧ tyFld Try.prog 48 2 = some (2, 3) ∧ tyFld Try.prog 48 3 = some (3, 47) := by decide +kernel
theorem Z48 : tyZero Try.prog 48 = some [.int .i64 0, .int .i64 0, .int .i64 0, .int .i64 0, .int .i64 0, .string ⟨#[]⟩] := by kernel_rfl
theorem T49 : tySz Try.prog 49 = some 6 ∧ tyAgg Try.prog 49 = some true ∧ tyBytes Try.prog 49 = some 56 ∧ fldsOk Try.prog 49 = true ∧ tyFld Try.prog 49 0 = some (0, 3) ∧ tyFld Try.prog 49 1 = some (1, 3) ∧ tyFld Try.prog 49 2 = some (2, 3) ∧ tyFld Try.prog 49 3 = some (3, 47) := by decide +kernel
theorem Z49 : tyZero Try.prog 49 = some [.int .i64 0, .int .i64 0, .int .i64 0, .int .i64 0, .int .i64 0, .string ⟨#[]⟩] := by kernel_rfl
theorem T56 : tySz Try.prog 56 = some 1 ∧ tyAgg Try.prog 56 = some false ∧ tyBytes Try.prog 56 = some 24 ∧ tyElem Try.prog 56 = some 44 := by decide +kernel
theorem Z56 : tyZero Try.prog 56 = some [.slice none 0 0] := by kernel_rfl
theorem T57 : tySz Try.prog 57 = some 3 ∧ tyAgg Try.prog 57 = some true ∧ tyBytes Try.prog 57 = some 40 ∧ fldsOk Try.prog 57 = true ∧ tyFld Try.prog 57 0 = some (0, 3) ∧ tyFld Try.prog 57 1 = some (1, 3) ∧ tyFld Try.prog 57 2 = some (2, 56) := by decide +kernel
theorem Z57 : tyZero Try.prog 57 = some [.int .i64 0, .int .i64 0, .slice none 0 0] := by kernel_rfl
theorem T58 : tySz Try.prog 58 = some 3 ∧ tyAgg Try.prog 58 = some true ∧ tyBytes Try.prog 58 = some 40 ∧ fldsOk Try.prog 58 = true ∧ tyFld Try.prog 58 0 = some (0, 3) ∧ tyFld Try.prog 58 1 = some (1, 3) ∧ tyFld Try.prog 58 2 = some (2, 56) := by decide +kernel
theorem Z58 : tyZero Try.prog 58 = some [.int .i64 0, .int .i64 0, .slice none 0 0] := by kernel_rfl
theorem T59 : tySz Try.prog 59 = some 5 ∧ tyAgg Try.prog 59 = some true ∧ tyBytes Try.prog 59 = some 56 ∧ fldsOk Try.prog 59 = true ∧ tyFld Try.prog 59 0 = some (0, 3) ∧ tyFld Try.prog 59 1 = some (1, 3) ∧ tyFld Try.prog 59 2 = some (2, 58) := by decide +kernel
theorem Z59 : tyZero Try.prog 59 = some [.int .i64 0, .int .i64 0, .int .i64 0, .int .i64 0, .slice none 0 0] := by kernel_rfl
theorem T60 : tySz Try.prog 60 = some 5 ∧ tyAgg Try.prog 60 = some true ∧ tyBytes Try.prog 60 = some 56 ∧ fldsOk Try.prog 60 = true ∧ tyFld Try.prog 60 0 = some (0, 3) ∧ tyFld Try.prog 60 1 = some (1, 3) ∧ tyFld Try.prog 60 2 = some (2, 58) := by decide +kernel
theorem Z60 : tyZero Try.prog 60 = some [.int .i64 0, .int .i64 0, .int .i64 0, .int .i64 0, .slice none 0 0] := by kernel_rfl
theorem T61 : tySz Try.prog 61 = some 3 ∧ tyAgg Try.prog 61 = some true ∧ tyBytes Try.prog 61 = some 40 ∧ fldsOk Try.prog 61 = true ∧ tyFld Try.prog 61 0 = some (0, 3) ∧ tyFld Try.prog 61 1 = some (1, 3) ∧ tyFld Try.prog 61 2 = some (2, 36) := by decide +kernel
theorem Z61 : tyZero Try.prog 61 = some [.int .i64 0, .int .i64 0, .slice none 0 0] := by kernel_rfl
theorem T62 : tySz Try.prog 62 = some 3 ∧ tyAgg Try.prog 62 = some true ∧ tyBytes Try.prog 62 = some 40 ∧ fldsOk Try.prog 62 = true ∧ tyFld Try.prog 62 0 = some (0, 3) ∧ tyFld Try.prog 62 1 = some (1, 3) ∧ tyFld Try.prog 62 2 = some (2, 36) := by decide +kernel
theorem Z62 : tyZero Try.prog 62 = some [.int .i64 0, .int .i64 0, .slice none 0 0] := by kernel_rfl
theorem T63 : tySz Try.prog 63 = some 5 ∧ tyAgg Try.prog 63 = some true ∧ tyBytes Try.prog 63 = some 56 ∧ fldsOk Try.prog 63 = true ∧ tyFld Try.prog 63 0 = some (0, 3) ∧ tyFld Try.prog 63 1 = some (1, 3) ∧ tyFld Try.prog 63 2 = some (2, 62) := by decide +kernel
theorem Z63 : tyZero Try.prog 63 = some [.int .i64 0, .int .i64 0, .int .i64 0, .int .i64 0, .slice none 0 0] := by kernel_rfl
theorem T64 : tySz Try.prog 64 = some 5 ∧ tyAgg Try.prog 64 = some true ∧ tyBytes Try.prog 64 = some 56 ∧ fldsOk Try.prog 64 = true ∧ tyFld Try.prog 64 0 = some (0, 3) ∧ tyFld Try.prog 64 1 = some (1, 3) ∧ tyFld Try.prog 64 2 = some (2, 62) := by decide +kernel
theorem Z64 : tyZero Try.prog 64 = some [.int .i64 0, .int .i64 0, .int .i64 0, .int .i64 0, .slice none 0 0] := by kernel_rfl
theorem T77 : tySz Try.prog 77 = some 1 ∧ tyAgg Try.prog 77 = some false ∧ tyBytes Try.prog 77 = some 24 ∧ tyElem Try.prog 77 = some 5 := by decide +kernel
theorem Z77 : tyZero Try.prog 77 = some [.slice none 0 0] := by kernel_rfl
theorem T81 : tySz Try.prog 81 = some 4 ∧ tyAgg Try.prog 81 = some true ∧ tyBytes Try.prog 81 = some 40 ∧ fldsOk Try.prog 81 = true ∧ tyFld Try.prog 81 0 = some (0, 17) ∧ tyFld Try.prog 81 1 = some (1, 17) ∧ tyFld Try.prog 81 2 = some (2, 17) ∧ tyFld Try.prog 81 3 = some (3, 9) := by decide +kernel
theorem Z81 : tyZero Try.prog 81 = some [.pointer none, .pointer none, .pointer none, .string ⟨#[]⟩] := by kernel_rfl
theorem T82 : tySz Try.prog 82 = some 4 ∧ tyAgg Try.prog 82 = some true ∧ tyBytes Try.prog 82 = some 40 ∧ fldsOk Try.prog 82 = true ∧ tyFld Try.prog 82 0 = some (0, 17) ∧ tyFld Try.prog 82 1 = some (1, 17) ∧ tyFld Try.prog 82 2 = some (2, 17) ∧ tyFld Try.prog 82 3 = some (3, 9) := by decide +kernel
theorem Z82 : tyZero Try.prog 82 = some [.pointer none, .pointer none, .pointer none, .string ⟨#[]⟩] := by kernel_rfl
theorem T87 : tySz Try.prog 87 = some 1 ∧ tyAgg Try.prog 87 = some false ∧ tyBytes Try.prog 87 = some 4 := by decide +kernel
theorem Z87 : tyZero Try.prog 87 = some [.int .u32 0] := by kernel_rfl
theorem U87 : Try.prog.underlying 87 = some (.int .u32) := by kernel_rfl
theorem T88 : tySz Try.prog 88 = some 1 ∧ tyAgg Try.prog 88 = some false ∧ tyBytes Try.prog 88 = some 1 := by decide +kernel
theorem Z88 : tyZero Try.prog 88 = some [.int .u8 0] := by kernel_rfl
theorem U88 : Try.prog.underlying 88 = some (.int .u8) := by kernel_rfl
theorem T89 : tySz Try.prog 89 = some 1 ∧ tyAgg Try.prog 89 = some false ∧ tyBytes Try.prog 89 = some 1 := by decide +kernel
theorem Z89 : tyZero Try.prog 89 = some [.int .u8 0] := by kernel_rfl
theorem U89 : Try.prog.underlying 89 = some (.int .u8) := by kernel_rfl
theorem T91 : tySz Try.prog 91 = some 1 ∧ tyAgg Try.prog 91 = some false ∧ tyBytes Try.prog 91 = some 8 := by decide +kernel
theorem Z91 : tyZero Try.prog 91 = some [.pointer none] := by kernel_rfl
theorem T92 : tySz Try.prog 92 = some 1 ∧ tyAgg Try.prog 92 = some false ∧ tyBytes Try.prog 92 = some 4 := by decide +kernel
theorem Z92 : tyZero Try.prog 92 = some [.int .i32 0] := by kernel_rfl
theorem U92 : Try.prog.underlying 92 = some (.int .i32) := by kernel_rfl
theorem T93 : tySz Try.prog 93 = some 1 ∧ tyAgg Try.prog 93 = some false ∧ tyBytes Try.prog 93 = some 4 := by decide +kernel
theorem Z93 : tyZero Try.prog 93 = some [.int .i32 0] := by kernel_rfl
theorem U93 : Try.prog.underlying 93 = some (.int .i32) := by kernel_rfl
theorem T94 : tySz Try.prog 94 = some 11 ∧ tyAgg Try.prog 94 = some true ∧ tyBytes Try.prog 94 = some 48 ∧ fldsOk Try.prog 94 = true ∧ tyFld Try.prog 94 0 = some (0, 12) ∧ tyFld Try.prog 94 1 = some (1, 12) ∧ tyFld Try.prog 94 2 = some (2, 87) ∧ tyFld Try.prog 94 3 = some (3, 88) ∧ tyFld Try.prog 94 4 = some (4, 5) ∧ tyFld Try.prog 94 5 = some (5, 5) ∧ tyFld Try.prog 94 6 = some (6, 89) ∧ tyFld Try.prog 94 7 = some (7, 90) ∧ tyFld Try.prog 94 8 = some (8, 91) ∧ tyFld Try.prog 94 9 = some (9, 92) ∧ tyFld Try.prog 94 10 = some (10, 93) := by decide +kernel
theorem Z94 : tyZero Try.prog 94 = some [.int .u64 0, .int .u64 0, .int .u32 0, .int .u8 0, .int .u8 0, .int .u8 0, .int .u8 0, .nilFunc, .pointer none, .int .i32 0, .int .i32 0] := by kernel_rfl
theorem T95 : tySz Try.prog 95 = some 11 ∧ tyAgg Try.prog 95 = some true ∧ tyBytes Try.prog 95 = some 48 ∧ fldsOk Try.prog 95 = true ∧ tyFld Try.prog 95 0 = some (0, 12) ∧ tyFld Try.prog 95 1 = some (1, 12) ∧ tyFld Try.prog 95 2 = some (2, 87) ∧ tyFld Try.prog 95 3 = some (3, 88) ∧ tyFld Try.prog 95 4 = some (4, 5) ∧ tyFld Try.prog 95 5 = some (5, 5) ∧ tyFld Try.prog 95 6 = some (6, 89) ∧ tyFld Try.prog 95 7 = some (7, 90) ∧ tyFld Try.prog 95 8 = some (8, 91) ∧ tyFld Try.prog 95 9 = some (9, 92) ∧ tyFld Try.prog 95 10 = some (10, 93) := by decide +kernel
theorem Z95 : tyZero Try.prog 95 = some [.int .u64 0, .int .u64 0, .int .u32 0, .int .u8 0, .int .u8 0, .int .u8 0, .int .u8 0, .nilFunc, .pointer none, .int .i32 0, .int .i32 0] := by kernel_rfl
attribute [push_cast] T2 Z2 U2 T3 Z3 U3 T4 Z4 U4 T5 Z5 U5 T6 Z6 U6 T7 Z7 T8 Z8 T9 Z9 U9 T10 Z10 U10 T11 Z11 U11 T12 Z12 U12 T13 Z13 T14 Z14 T15 Z15 T16 Z16 T17
attribute [push_cast] Z17 T18 Z18 T19 Z19 T21 Z21 U21 T22 Z22 T25 Z25 T29 Z29 T32 Z32 T36 Z36 T43 Z43 T44 Z44 T45 Z45 T46 Z46 T47 Z47 T48 Z48 T49 Z49 T56 Z56 T57 Z57 T58 Z58 T59 Z59
attribute [push_cast] T60 Z60 T61 Z61 T62 Z62 T63 Z63 T64 Z64 T77 Z77 T81 Z81 T82 Z82 T87 Z87 U87 T88 Z88 U88 T89 Z89 U89 T91 Z91 T92 Z92 U92 T93 Z93 U93 T94 Z94 T95 Z95
end Go.Proofs.Ytcdjpfikpliagaa
