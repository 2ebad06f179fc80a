/- What the types of this seat's program are: sizes, fields, zero values: each a closed fact. -/
import Derived.Test.YteflbcdjlphnjaaProg
import Derived.Test.YteflbcdjlphnjaaRxIII
namespace Go.Proofs.Yteflbcdjlphnjaa
open Go.Rx
theorem T2 : tySz Try.prog 2 = some 1 ∧ tyAgg Try.prog 2 = some false ∧ tyBytes Try.prog 2 = some 8 := by decide +kernel
theorem Z2 : tyZero Try.prog 2 = some [.int .i64 0] := by kernel_rfl
theorem U2 : Try.prog.underlying 2 = some (.int .i64) := by kernel_rfl
theorem T3 : tySz Try.prog 3 = some 1 ∧ tyAgg Try.prog 3 = some false ∧ tyBytes Try.prog 3 = some 8 := by decide +kernel
theorem Z3 : tyZero Try.prog 3 = some [.int .i64 0] := by kernel_rfl
theorem U3 : Try.prog.underlying 3 = some (.int .i64) := by kernel_rfl
theorem T4 : tySz Try.prog 4 = some 1 ∧ tyAgg Try.prog 4 = some false ∧ tyBytes Try.prog 4 = some 1 := by decide +kernel
theorem Z4 : tyZero Try.prog 4 = some [.bool false] := by kernel_rfl
theorem U4 : Try.prog.underlying 4 = some .bool := by kernel_rfl
theorem T5 : tySz Try.prog 5 = some 1 ∧ tyAgg Try.prog 5 = some false ∧ tyBytes Try.prog 5 = some 1 := by decide +kernel
theorem Z5 : tyZero Try.prog 5 = some [.int .u8 0] := by kernel_rfl
theorem U5 : Try.prog.underlying 5 = some (.int .u8) := by kernel_rfl
theorem T6 : tySz Try.prog 6 = some 1 ∧ tyAgg Try.prog 6 = some false ∧ tyBytes Try.prog 6 = some 1 := by decide +kernel
theorem Z6 : tyZero Try.prog 6 = some [.int .u8 0] := by kernel_rfl
theorem U6 : Try.prog.underlying 6 = some (.int .u8) := by kernel_rfl
theorem T7 : tySz Try.prog 7 = some 4 ∧ tyAgg Try.prog 7 = some true ∧ tyBytes Try.prog 7 = some 24 ∧ fldsOk Try.prog 7 = true ∧ tyFld Try.prog 7 0 = some (0, 2) ∧ tyFld Try.prog 7 1 = some (1, 3) ∧ tyFld Try.prog 7 2 = some (2, 4) ∧ tyFld Try.prog 7 3 = some (3, 6) := by decide +kernel
theorem Z7 : tyZero Try.prog 7 = some [.int .i64 0, .int .i64 0, .bool false, .int .u8 0] := by kernel_rfl
theorem T8 : tySz Try.prog 8 = some 4 ∧ tyAgg Try.prog 8 = some true ∧ tyBytes Try.prog 8 = some 24 ∧ fldsOk Try.prog 8 = true ∧ tyFld Try.prog 8 0 = some (0, 2) ∧ tyFld Try.prog 8 1 = some (1, 3) ∧ tyFld Try.prog 8 2 = some (2, 4) ∧ tyFld Try.prog 8 3 = some (3, 6) := by decide +kernel
theorem Z8 : tyZero Try.prog 8 = some [.int .i64 0, .int .i64 0, .bool false, .int .u8 0] := by kernel_rfl
theorem T9 : tySz Try.prog 9 = some 1 ∧ tyAgg Try.prog 9 = some false ∧ tyBytes Try.prog 9 = some 16 := by decide +kernel
theorem Z9 : tyZero Try.prog 9 = some [.string ⟨#[]⟩] := by kernel_rfl
theorem U9 : Try.prog.underlying 9 = some .string := by kernel_rfl
theorem T10 : tySz Try.prog 10 = some 1 ∧ tyAgg Try.prog 10 = some false ∧ tyBytes Try.prog 10 = some 16 := by decide +kernel
theorem Z10 : tyZero Try.prog 10 = some [.string ⟨#[]⟩] := by kernel_rfl
theorem U10 : Try.prog.underlying 10 = some .string := by kernel_rfl
theorem T11 : tySz Try.prog 11 = some 1 ∧ tyAgg Try.prog 11 = some false ∧ tyBytes Try.prog 11 = some 16 := by decide +kernel
theorem Z11 : tyZero Try.prog 11 = some [.string ⟨#[]⟩] := by kernel_rfl
theorem U11 : Try.prog.underlying 11 = some .string := by kernel_rfl
theorem T12 : tySz Try.prog 12 = some 1 ∧ tyAgg Try.prog 12 = some false ∧ tyBytes Try.prog 12 = some 8 := by decide +kernel
theorem Z12 : tyZero Try.prog 12 = some [.int .u64 0] := by kernel_rfl
theorem U12 : Try.prog.underlying 12 = some (.int .u64) := by kernel_rfl
theorem T13 : tySz Try.prog 13 = some 2 ∧ tyAgg Try.prog 13 = some true ∧ tyBytes Try.prog 13 = some 24 ∧ fldsOk Try.prog 13 = true ∧ tyFld Try.prog 13 0 = some (0, 9) ∧ tyFld Try.prog 13 1 = some (1, 12) := by decide +kernel
theorem Z13 : tyZero Try.prog 13 = some [.string ⟨#[]⟩, .int .u64 0] := by kernel_rfl
theorem T14 : tySz Try.prog 14 = some 2 ∧ tyAgg Try.prog 14 = some true ∧ tyBytes Try.prog 14 = some 24 ∧ fldsOk Try.prog 14 = true ∧ tyFld Try.prog 14 0 = some (0, 9) ∧ tyFld Try.prog 14 1 = some (1, 12) := by decide +kernel
theorem Z14 : tyZero Try.prog 14 = some [.string ⟨#[]⟩, .int .u64 0] := by kernel_rfl
theorem T15 : tySz Try.prog 15 = some 1 ∧ tyAgg Try.prog 15 = some false ∧ tyBytes Try.prog 15 = some 8 := by decide +kernel
theorem Z15 : tyZero Try.prog 15 = some [.pointer none] := by kernel_rfl
theorem T16 : tySz Try.prog 16 = some 1 ∧ tyAgg Try.prog 16 = some false ∧ tyBytes Try.prog 16 = some 8 := by decide +kernel
theorem Z16 : tyZero Try.prog 16 = some [.pointer none] := by kernel_rfl
theorem T17 : tySz Try.prog 17 = some 1 ∧ tyAgg Try.prog 17 = some false ∧ tyBytes Try.prog 17 = some 8 := by decide +kernel
theorem Z17 : tyZero Try.prog 17 = some [.pointer none] := by kernel_rfl
theorem T18 : tySz Try.prog 18 = some 1 ∧ tyAgg Try.prog 18 = some true ∧ tyBytes Try.prog 18 = some 8 ∧ fldsOk Try.prog 18 = true ∧ tyFld Try.prog 18 0 = some (0, 17) := by decide +kernel
theorem Z18 : tyZero Try.prog 18 = some [.pointer none] := by kernel_rfl
theorem T19 : tySz Try.prog 19 = some 1 ∧ tyAgg Try.prog 19 = some true ∧ tyBytes Try.prog 19 = some 8 ∧ fldsOk Try.prog 19 = true ∧ tyFld Try.prog 19 0 = some (0, 17) := by decide +kernel
theorem Z19 : tyZero Try.prog 19 = some [.pointer none] := by kernel_rfl
theorem T21 : tySz Try.prog 21 = some 1 ∧ tyAgg Try.prog 21 = some false ∧ tyBytes Try.prog 21 = some 4 := by decide +kernel
theorem Z21 : tyZero Try.prog 21 = some [.int .i32 0] := by kernel_rfl
theorem U21 : Try.prog.underlying 21 = some (.int .i32) := by kernel_rfl
theorem T22 : tySz Try.prog 22 = some 1 ∧ tyAgg Try.prog 22 = some false ∧ tyBytes Try.prog 22 = some 24 ∧ tyElem Try.prog 22 = some 5 := by decide +kernel
theorem Z22 : tyZero Try.prog 22 = some [.slice none 0 0] := by kernel_rfl
theorem T24 : tySz Try.prog 24 = some 1 ∧ tyAgg Try.prog 24 = some false ∧ tyBytes Try.prog 24 = some 24 ∧ tyElem Try.prog 24 = some 3 := by decide +kernel
theorem Z24 : tyZero Try.prog 24 = some [.slice none 0 0] := by kernel_rfl
theorem T27 : tySz Try.prog 27 = some 1 ∧ tyAgg Try.prog 27 = some false ∧ tyBytes Try.prog 27 = some 24 ∧ tyElem Try.prog 27 = some 9 := by decide +kernel
theorem Z27 : tyZero Try.prog 27 = some [.slice none 0 0] := by kernel_rfl
theorem T33 : tySz Try.prog 33 = some 1 ∧ tyAgg Try.prog 33 = some false ∧ tyBytes Try.prog 33 = some 8 := by decide +kernel
theorem Z33 : tyZero Try.prog 33 = some [.pointer none] := by kernel_rfl
theorem T44 : tySz Try.prog 44 = some 3 ∧ tyAgg Try.prog 44 = some true ∧ tyBytes Try.prog 44 = some 40 ∧ fldsOk Try.prog 44 = true ∧ tyFld Try.prog 44 0 = some (0, 22) ∧ tyFld Try.prog 44 1 = some (1, 3) ∧ tyFld Try.prog 44 2 = some (2, 3) := by decide +kernel
theorem Z44 : tyZero Try.prog 44 = some [.slice none 0 0, .int .i64 0, .int .i64 0] := by kernel_rfl
theorem T45 : tySz Try.prog 45 = some 3 ∧ tyAgg Try.prog 45 = some true ∧ tyBytes Try.prog 45 = some 40 ∧ fldsOk Try.prog 45 = true ∧ tyFld Try.prog 45 0 = some (0, 22) ∧ tyFld Try.prog 45 1 = some (1, 3) ∧ tyFld Try.prog 45 2 = some (2, 3) := by decide +kernel
theorem Z45 : tyZero Try.prog 45 = some [.slice none 0 0, .int .i64 0, .int .i64 0] := by kernel_rfl
theorem T46 : tySz Try.prog 46 = some 1 ∧ tyAgg Try.prog 46 = some false ∧ tyBytes Try.prog 46 = some 8 := by decide +kernel
theorem Z46 : tyZero Try.prog 46 = some [.int .u64 0] := by kernel_rfl
theorem U46 : Try.prog.underlying 46 = some (.int .u64) := by kernel_rfl
theorem T50 : tySz Try.prog 50 = some 1 ∧ tyAgg Try.prog 50 = some false ∧ tyBytes Try.prog 50 = some 4 := by decide +kernel
theorem Z50 : tyZero Try.prog 50 = some [.int .u32 0] := by kernel_rfl
theorem U50 : Try.prog.underlying 50 = some (.int .u32) := by kernel_rfl
theorem T52 : tySz Try.prog 52 = some 3 ∧ tyAgg Try.prog 52 = some true ∧ tyBytes Try.prog 52 = some 32 ∧ fldsOk Try.prog 52 = true ∧ tyFld Try.prog 52 0 = some (0, 9) ∧ tyFld Try.prog 52 1 = some (1, 3) ∧ tyFld Try.prog 52 2 = some (2, 4) := by decide +kernel
theorem Z52 : tyZero Try.prog 52 = some [.string ⟨#[]⟩, .int .i64 0, .bool false] := by kernel_rfl
theorem T53 : tySz Try.prog 53 = some 3 ∧ tyAgg Try.prog 53 = some true ∧ tyBytes Try.prog 53 = some 32 ∧ fldsOk Try.prog 53 = true ∧ tyFld Try.prog 53 0 = some (0, 9) ∧ tyFld Try.prog 53 1 = some (1, 3) ∧ tyFld Try.prog 53 2 = some (2, 4) := by decide +kernel
theorem Z53 : tyZero Try.prog 53 = some [.string ⟨#[]⟩, .int .i64 0, .bool false] := by kernel_rfl
theorem T56 : tySz Try.prog 56 = some 1 ∧ tyAgg Try.prog 56 = some false ∧ tyBytes Try.prog 56 = some 8 := by decide +kernel
theorem Z56 : tyZero Try.prog 56 = some [.pointer none] := by kernel_rfl
theorem T60 : tySz Try.prog 60 = some 4 ∧ tyAgg Try.prog 60 = some true ∧ tyBytes Try.prog 60 = some 40 ∧ fldsOk Try.prog 60 = true ∧ tyFld Try.prog 60 0 = some (0, 17) ∧ tyFld Try.prog 60 1 = some (1, 17) ∧ tyFld Try.prog 60 2 = some (2, 17) ∧ tyFld Try.prog 60 3 = some (3, 9) := by decide +kernel
theorem Z60 : tyZero Try.prog 60 = some [.pointer none, .pointer none, .pointer none, .string ⟨#[]⟩] := by kernel_rfl
theorem T61 : tySz Try.prog 61 = some 4 ∧ tyAgg Try.prog 61 = some true ∧ tyBytes Try.prog 61 = some 40 ∧ fldsOk Try.prog 61 = true ∧ tyFld Try.prog 61 0 = some (0, 17) ∧ tyFld Try.prog 61 1 = some (1, 17) ∧ tyFld Try.prog 61 2 = some (2, 17) ∧ tyFld Try.prog 61 3 = some (3, 9) := by decide +kernel
theorem Z61 : tyZero Try.prog 61 = some [.pointer none, .pointer none, .pointer none, .string ⟨#[]⟩] := by kernel_rfl
theorem T65 : tySz Try.prog 65 = some 1 ∧ tyAgg Try.prog 65 = some false ∧ tyBytes Try.prog 65 = some 1 := by decide +kernel
theorem Z65 : tyZero Try.prog 65 = some [.int .u8 0] := by kernel_rfl
theorem U65 : Try.prog.underlying 65 = some (.int .u8) := by kernel_rfl
theorem T66 : tySz Try.prog 66 = some 1 ∧ tyAgg Try.prog 66 = some false ∧ tyBytes Try.prog 66 = some 1 := by decide +kernel
theorem Z66 : tyZero Try.prog 66 = some [.int .u8 0] := by kernel_rfl
theorem U66 : Try.prog.underlying 66 = some (.int .u8) := by kernel_rfl
theorem T68 : tySz Try.prog 68 = some 1 ∧ tyAgg Try.prog 68 = some false ∧ tyBytes Try.prog 68 = some 8 := by decide +kernel
theorem Z68 : tyZero Try.prog 68 = some [.pointer none] := by kernel_rfl
theorem T69 : tySz Try.prog 69 = some 1 ∧ tyAgg Try.prog 69 = some false ∧ tyBytes Try.prog 69 = some 4 := by decide +kernel
theorem Z69 : tyZero Try.prog 69 = some [.int .i32 0] := by kernel_rfl
theorem U69 : Try.prog.underlying 69 = some (.int .i32) := by kernel_rfl
theorem T70 : tySz Try.prog 70 = some 1 ∧ tyAgg Try.prog 70 = some false ∧ tyBytes Try.prog 70 = some 4 := by decide +kernel
theorem Z70 : tyZero Try.prog 70 = some [.int .i32 0] := by kernel_rfl
theorem U70 : Try.prog.underlying 70 = some (.int .i32) := by kernel_rfl
theorem T71 : tySz Try.prog 71 = some 11 ∧ tyAgg Try.prog 71 = some true ∧ tyBytes Try.prog 71 = some 48 ∧ fldsOk Try.prog 71 = true ∧ tyFld Try.prog 71 0 = some (0, 12) ∧ tyFld Try.prog 71 1 = some (1, 12) ∧ tyFld Try.prog 71 2 = some (2, 50) ∧ tyFld Try.prog 71 3 = some (3, 65) ∧ tyFld Try.prog 71 4 = some (4, 5) ∧ tyFld Try.prog 71 5 = some (5, 5) ∧ tyFld Try.prog 71 6 = some (6, 66) ∧ tyFld Try.prog 71 7 = some (7, 67) ∧ tyFld Try.prog 71 8 = some (8, 68) ∧ tyFld Try.prog 71 9 = some (9, 69) ∧ tyFld Try.prog 71 10 = some (10, 70) := by decide +kernel
theorem Z71 : tyZero Try.prog 71 = some [.int .u64 0, .int .u64 0, .int .u32 0, .int .u8 0, .int .u8 0, .int .u8 0, .int .u8 0, .nilFunc, .pointer none, .int .i32 0, .int .i32 0] := by kernel_rfl
theorem T72 : tySz Try.prog 72 = some 11 ∧ tyAgg Try.prog 72 = some true ∧ tyBytes Try.prog 72 = some 48 ∧ fldsOk Try.prog 72 = true ∧ tyFld Try.prog 72 0 = some (0, 12) ∧ tyFld Try.prog 72 1 = some (1, 12) ∧ tyFld Try.prog 72 2 = some (2, 50) ∧ tyFld Try.prog 72 3 = some (3, 65) ∧ tyFld Try.prog 72 4 = some (4, 5) ∧ tyFld Try.prog 72 5 = some (5, 5) ∧ tyFld Try.prog 72 6 = some (6, 66) ∧ tyFld Try.prog 72 7 = some (7, 67) ∧ tyFld Try.prog 72 8 = some (8, 68) ∧ tyFld Try.prog 72 9 = some (9, 69) ∧ tyFld Try.prog 72 10 = some (10, 70) := by decide +kernel
theorem Z72 : tyZero Try.prog 72 = some [.int .u64 0, .int .u64 0, .int .u32 0, .int .u8 0, .int .u8 0, .int .u8 0, .int .u8 0, .nilFunc, .pointer none, .int .i32 0, .int .i32 0] := by kernel_rfl
attribute [push_cast] T2 Z2 U2 T3 Z3 U3 T4 Z4 U4 T5 Z5 U5 T6 Z6 U6 T7 Z7 T8 Z8 T9 Z9 U9 T10 Z10 U10 T11 Z11 U11 T12 Z12 U12 T13 Z13 T14 Z14 T15 Z15 T16 Z16 T17
attribute [push_cast] Z17 T18 Z18 T19 Z19 T21 Z21 U21 T22 Z22 T24 Z24 T27 Z27 T33 Z33 T44 Z44 T45 Z45 T46 Z46 U46 T50 Z50 U50 T52 Z52 T53 Z53 T56 Z56 T60 Z60 T61 Z61 T65 Z65 U65 T66
attribute [push_cast] Z66 U66 T68 Z68 T69 Z69 U69 T70 Z70 U70 T71 Z71 T72 Z72
end Go.Proofs.Yteflbcdjlphnjaa
