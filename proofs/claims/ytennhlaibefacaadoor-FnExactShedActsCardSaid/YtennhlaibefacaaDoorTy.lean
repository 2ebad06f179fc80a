/- What the types of this seat's program are: sizes, fields, zero values: each a closed fact. -/
import Derived.Test.YtennhlaibefacaaDoorProg
import Derived.Test.YtennhlaibefacaaDoorRxIII
namespace Go.Proofs.YtennhlaibefacaaDoor
open Go.Rx
theorem T2 : tySz Tryd.prog 2 = some 1 ∧ tyAgg Tryd.prog 2 = some false ∧ tyBytes Tryd.prog 2 = some 8 := by decide +kernel
theorem Z2 : tyZero Tryd.prog 2 = some [.int .i64 0] := by kernel_rfl
theorem U2 : Tryd.prog.underlying 2 = some (.int .i64) := by kernel_rfl
theorem T3 : tySz Tryd.prog 3 = some 1 ∧ tyAgg Tryd.prog 3 = some false ∧ tyBytes Tryd.prog 3 = some 8 := by decide +kernel
theorem Z3 : tyZero Tryd.prog 3 = some [.int .i64 0] := by kernel_rfl
theorem U3 : Tryd.prog.underlying 3 = some (.int .i64) := by kernel_rfl
theorem T4 : tySz Tryd.prog 4 = some 1 ∧ tyAgg Tryd.prog 4 = some false ∧ tyBytes Tryd.prog 4 = some 1 := by decide +kernel
theorem Z4 : tyZero Tryd.prog 4 = some [.bool false] := by kernel_rfl
theorem U4 : Tryd.prog.underlying 4 = some .bool := by kernel_rfl
theorem T5 : tySz Tryd.prog 5 = some 1 ∧ tyAgg Tryd.prog 5 = some false ∧ tyBytes Tryd.prog 5 = some 1 := by decide +kernel
theorem Z5 : tyZero Tryd.prog 5 = some [.int .u8 0] := by kernel_rfl
theorem U5 : Tryd.prog.underlying 5 = some (.int .u8) := by kernel_rfl
theorem T6 : tySz Tryd.prog 6 = some 1 ∧ tyAgg Tryd.prog 6 = some false ∧ tyBytes Tryd.prog 6 = some 1 := by decide +kernel
theorem Z6 : tyZero Tryd.prog 6 = some [.int .u8 0] := by kernel_rfl
theorem U6 : Tryd.prog.underlying 6 = some (.int .u8) := by kernel_rfl
theorem T7 : tySz Tryd.prog 7 = some 4 ∧ tyAgg Tryd.prog 7 = some true ∧ tyBytes Tryd.prog 7 = some 24 ∧ fldsOk Tryd.prog 7 = true ∧ tyFld Tryd.prog 7 0 = some (0, 2) ∧ tyFld Tryd.prog 7 1 = some (1, 3) ∧ tyFld Tryd.prog 7 2 = some (2, 4) ∧ tyFld Tryd.prog 7 3 = some (3, 6) := by decide +kernel
theorem Z7 : tyZero Tryd.prog 7 = some [.int .i64 0, .int .i64 0, .bool false, .int .u8 0] := by kernel_rfl
theorem T8 : tySz Tryd.prog 8 = some 4 ∧ tyAgg Tryd.prog 8 = some true ∧ tyBytes Tryd.prog 8 = some 24 ∧ fldsOk Tryd.prog 8 = true ∧ tyFld Tryd.prog 8 0 = some (0, 2) ∧ tyFld Tryd.prog 8 1 = some (1, 3) ∧ tyFld Tryd.prog 8 2 = some (2, 4) ∧ tyFld Tryd.prog 8 3 = some (3, 6) := by decide +kernel
theorem Z8 : tyZero Tryd.prog 8 = some [.int .i64 0, .int .i64 0, .bool false, .int .u8 0] := by kernel_rfl
theorem T9 : tySz Tryd.prog 9 = some 1 ∧ tyAgg Tryd.prog 9 = some false ∧ tyBytes Tryd.prog 9 = some 16 := by decide +kernel
theorem Z9 : tyZero Tryd.prog 9 = some [.string ⟨#[]⟩] := by kernel_rfl
theorem U9 : Tryd.prog.underlying 9 = some .string := by kernel_rfl
theorem T10 : tySz Tryd.prog 10 = some 1 ∧ tyAgg Tryd.prog 10 = some false ∧ tyBytes Tryd.prog 10 = some 16 := by decide +kernel
theorem Z10 : tyZero Tryd.prog 10 = some [.string ⟨#[]⟩] := by kernel_rfl
theorem U10 : Tryd.prog.underlying 10 = some .string := by kernel_rfl
theorem T11 : tySz Tryd.prog 11 = some 1 ∧ tyAgg Tryd.prog 11 = some false ∧ tyBytes Tryd.prog 11 = some 16 := by decide +kernel
theorem Z11 : tyZero Tryd.prog 11 = some [.string ⟨#[]⟩] := by kernel_rfl
theorem U11 : Tryd.prog.underlying 11 = some .string := by kernel_rfl
theorem T12 : tySz Tryd.prog 12 = some 1 ∧ tyAgg Tryd.prog 12 = some false ∧ tyBytes Tryd.prog 12 = some 8 := by decide +kernel
theorem Z12 : tyZero Tryd.prog 12 = some [.int .u64 0] := by kernel_rfl
theorem U12 : Tryd.prog.underlying 12 = some (.int .u64) := by kernel_rfl
theorem T13 : tySz Tryd.prog 13 = some 2 ∧ tyAgg Tryd.prog 13 = some true ∧ tyBytes Tryd.prog 13 = some 24 ∧ fldsOk Tryd.prog 13 = true ∧ tyFld Tryd.prog 13 0 = some (0, 9) ∧ tyFld Tryd.prog 13 1 = some (1, 12) := by decide +kernel
theorem Z13 : tyZero Tryd.prog 13 = some [.string ⟨#[]⟩, .int .u64 0] := by kernel_rfl
theorem T14 : tySz Tryd.prog 14 = some 2 ∧ tyAgg Tryd.prog 14 = some true ∧ tyBytes Tryd.prog 14 = some 24 ∧ fldsOk Tryd.prog 14 = true ∧ tyFld Tryd.prog 14 0 = some (0, 9) ∧ tyFld Tryd.prog 14 1 = some (1, 12) := by decide +kernel
theorem Z14 : tyZero Tryd.prog 14 = some [.string ⟨#[]⟩, .int .u64 0] := by kernel_rfl
theorem T15 : tySz Tryd.prog 15 = some 1 ∧ tyAgg Tryd.prog 15 = some false ∧ tyBytes Tryd.prog 15 = some 8 := by decide +kernel
theorem Z15 : tyZero Tryd.prog 15 = some [.pointer none] := by kernel_rfl
theorem T16 : tySz Tryd.prog 16 = some 1 ∧ tyAgg Tryd.prog 16 = some false ∧ tyBytes Tryd.prog 16 = some 8 := by decide +kernel
theorem Z16 : tyZero Tryd.prog 16 = some [.pointer none] := by kernel_rfl
theorem T17 : tySz Tryd.prog 17 = some 1 ∧ tyAgg Tryd.prog 17 = some false ∧ tyBytes Tryd.prog 17 = some 8 := by decide +kernel
theorem Z17 : tyZero Tryd.prog 17 = some [.pointer none] := by kernel_rfl
theorem T18 : tySz Tryd.prog 18 = some 1 ∧ tyAgg Tryd.prog 18 = some true ∧ tyBytes Tryd.prog 18 = some 8 ∧ fldsOk Tryd.prog 18 = true ∧ tyFld Tryd.prog 18 0 = some (0, 17) := by decide +kernel
theorem Z18 : tyZero Tryd.prog 18 = some [.pointer none] := by kernel_rfl
theorem T19 : tySz Tryd.prog 19 = some 1 ∧ tyAgg Tryd.prog 19 = some true ∧ tyBytes Tryd.prog 19 = some 8 ∧ fldsOk Tryd.prog 19 = true ∧ tyFld Tryd.prog 19 0 = some (0, 17) := by decide +kernel
theorem Z19 : tyZero Tryd.prog 19 = some [.pointer none] := by kernel_rfl
theorem T21 : tySz Tryd.prog 21 = some 1 ∧ tyAgg Tryd.prog 21 = some false ∧ tyBytes Tryd.prog 21 = some 4 := by decide +kernel
theorem Z21 : tyZero Tryd.prog 21 = some [.int .i32 0] := by kernel_rfl
theorem U21 : Tryd.prog.underlying 21 = some (.int .i32) := by kernel_rfl
theorem T22 : tySz Tryd.prog 22 = some 1 ∧ tyAgg Tryd.prog 22 = some false ∧ tyBytes Tryd.prog 22 = some 24 ∧ tyElem Tryd.prog 22 = some 63 := by decide +kernel
theorem Z22 : tyZero Tryd.prog 22 = some [.slice none 0 0] := by kernel_rfl
theorem T23 : tySz Tryd.prog 23 = some 1 ∧ tyAgg Tryd.prog 23 = some true ∧ tyBytes Tryd.prog 23 = some 24 ∧ fldsOk Tryd.prog 23 = true ∧ tyFld Tryd.prog 23 0 = some (0, 22) := by decide +kernel
theorem Z23 : tyZero Tryd.prog 23 = some [.slice none 0 0] := by kernel_rfl
theorem T24 : tySz Tryd.prog 24 = some 1 ∧ tyAgg Tryd.prog 24 = some true ∧ tyBytes Tryd.prog 24 = some 24 ∧ fldsOk Tryd.prog 24 = true ∧ tyFld Tryd.prog 24 0 = some (0, 22) := by decide +kernel
theorem Z24 : tyZero Tryd.prog 24 = some [.slice none 0 0] := by kernel_rfl
theorem T26 : tySz Tryd.prog 26 = some 1 ∧ tyAgg Tryd.prog 26 = some false ∧ tyBytes Tryd.prog 26 = some 24 ∧ tyElem Tryd.prog 26 = some 3 := by decide +kernel
theorem Z26 : tyZero Tryd.prog 26 = some [.slice none 0 0] := by kernel_rfl
theorem T27 : tySz Tryd.prog 27 = some 4 ∧ tyAgg Tryd.prog 27 = some true ∧ tyBytes Tryd.prog 27 = some 56 ∧ fldsOk Tryd.prog 27 = true ∧ tyFld Tryd.prog 27 0 = some (0, 3) ∧ tyFld Tryd.prog 27 1 = some (1, 3) ∧ tyFld Tryd.prog 27 2 = some (2, 26) ∧ tyFld Tryd.prog 27 3 = some (3, 9) := by decide +kernel
theorem Z27 : tyZero Tryd.prog 27 = some [.int .i64 0, .int .i64 0, .slice none 0 0, .string ⟨#[]⟩] := by kernel_rfl
theorem T28 : tySz Tryd.prog 28 = some 4 ∧ tyAgg Tryd.prog 28 = some true ∧ tyBytes Tryd.prog 28 = some 56 ∧ fldsOk Tryd.prog 28 = true ∧ tyFld Tryd.prog 28 0 = some (0, 3) ∧ tyFld Tryd.prog 28 1 = some (1, 3) ∧ tyFld Tryd.prog 28 2 = some (2, 26) ∧ tyFld Tryd.prog 28 3 = some (3, 9) := by decide +kernel
theorem Z28 : tyZero Tryd.prog 28 = some [.int .i64 0, .int .i64 0, .slice none 0 0, .string ⟨#[]⟩] := by kernel_rfl
theorem T31 : tySz Tryd.prog 31 = some 1 ∧ tyAgg Tryd.prog 31 = some false ∧ tyBytes Tryd.prog 31 = some 24 ∧ tyElem Tryd.prog 31 = some 48 := by decide +kernel
theorem Z31 : tyZero Tryd.prog 31 = some [.slice none 0 0] := by kernel_rfl
theorem T32 : tySz Tryd.prog 32 = some 1 ∧ tyAgg Tryd.prog 32 = some true ∧ tyBytes Tryd.prog 32 = some 24 ∧ fldsOk Tryd.prog 32 = true ∧ tyFld Tryd.prog 32 0 = some (0, 31) := by decide +kernel
theorem Z32 : tyZero Tryd.prog 32 = some [.slice none 0 0] := by kernel_rfl
theorem T33 : tySz Tryd.prog 33 = some 1 ∧ tyAgg Tryd.prog 33 = some true ∧ tyBytes Tryd.prog 33 = some 24 ∧ fldsOk Tryd.prog 33 = true ∧ tyFld Tryd.prog 33 0 = some (0, 31) := by decide +kernel
theorem Z33 : tyZero Tryd.prog 33 = some [.slice none 0 0] := by kernel_rfl
theorem T40 : tySz Tryd.prog 40 = some 1 ∧ tyAgg Tryd.prog 40 = some false ∧ tyBytes Tryd.prog 40 = some 24 ∧ tyElem Tryd.prog 40 = some 60 := by decide +kernel
theorem Z40 : tyZero Tryd.prog 40 = some [.slice none 0 0] := by kernel_rfl
theorem T47 : tySz Tryd.prog 47 = some 3 ∧ tyAgg Tryd.prog 47 = some true ∧ tyBytes Tryd.prog 47 = some 40 ∧ fldsOk Tryd.prog 47 = true ∧ tyFld Tryd.prog 47 0 = some (0, 9) ∧ tyFld Tryd.prog 47 1 = some (1, 9) ∧ tyFld Tryd.prog 47 2 = some (2, 3) := by decide +kernel
theorem Z47 : tyZero Tryd.prog 47 = some [.string ⟨#[]⟩, .string ⟨#[]⟩, .int .i64 0] := by kernel_rfl
theorem T48 : tySz Tryd.prog 48 = some 3 ∧ tyAgg Tryd.prog 48 = some true ∧ tyBytes Tryd.prog 48 = some 40 ∧ fldsOk Tryd.prog 48 = true ∧ tyFld Tryd.prog 48 0 = some (0, 9) ∧ tyFld Tryd.prog 48 1 = some (1, 9) ∧ tyFld Tryd.prog 48 2 = some (2, 3) := by decide +kernel
theorem Z48 : tyZero Tryd.prog 48 = some [.string ⟨#[]⟩, .string ⟨#[]⟩, .int .i64 0] := by kernel_rfl
theorem T59 : tySz Tryd.prog 59 = some 4 ∧ tyAgg Tryd.prog 59 = some true ∧ tyBytes Tryd.prog 59 = some 56 ∧ fldsOk Tryd.prog 59 = true ∧ tyFld Tryd.prog 59 0 = some (0, 3) ∧ tyFld Tryd.prog 59 1 = some (1, 9) ∧ tyFld Tryd.prog 59 2 = some (2, 9) ∧ tyFld Tryd.prog 59 3 = some (3, 9) := by decide +kernel
theorem Z59 : tyZero Tryd.prog 59 = some [.int .i64 0, .string ⟨#[]⟩, .string ⟨#[]⟩, .string ⟨#[]⟩] := by kernel_rfl
theorem T60 : tySz Tryd.prog 60 = some 4 ∧ tyAgg Tryd.prog 60 = some true ∧ tyBytes Tryd.prog 60 = some 56 ∧ fldsOk Tryd.prog 60 = true ∧ tyFld Tryd.prog 60 0 = some (0, 3) ∧ tyFld Tryd.prog 60 1 = some (1, 9) ∧ tyFld Tryd.prog 60 2 = some (2, 9) ∧ tyFld Tryd.prog 60 3 = some (3, 9) := by decide +kernel
theorem Z60 : tyZero Tryd.prog 60 = some [.int .i64 0, .string ⟨#[]⟩, .string ⟨#[]⟩, .string ⟨#[]⟩] := by kernel_rfl
theorem T63 : tySz Tryd.prog 63 = some 3 ∧ tyAgg Tryd.prog 63 = some true ∧ tyBytes Tryd.prog 63 = some 40 ∧ fldsOk Tryd.prog 63 = true ∧ tyFld Tryd.prog 63 0 = some (0, 9) ∧ tyFld Tryd.prog 63 1 = some (1, 9) ∧ tyFld Tryd.prog 63 2 = some (2, 3) := by decide +kernel
theorem Z63 : tyZero Tryd.prog 63 = some [.string ⟨#[]⟩, .string ⟨#[]⟩, .int .i64 0] := by kernel_rfl
theorem T68 : tySz Tryd.prog 68 = some 1 ∧ tyAgg Tryd.prog 68 = some false ∧ tyBytes Tryd.prog 68 = some 8 := by decide +kernel
theorem Z68 : tyZero Tryd.prog 68 = some [.pointer none] := by kernel_rfl
theorem T69 : tySz Tryd.prog 69 = some 3 ∧ tyAgg Tryd.prog 69 = some true ∧ tyBytes Tryd.prog 69 = some 32 ∧ fldsOk Tryd.prog 69 = true ∧ tyFld Tryd.prog 69 0 = some (0, 9) ∧ tyFld Tryd.prog 69 1 = some (1, 3) ∧ tyFld Tryd.prog 69 2 = some (2, 4) := by decide +kernel
theorem Z69 : tyZero Tryd.prog 69 = some [.string ⟨#[]⟩, .int .i64 0, .bool false] := by kernel_rfl
theorem T70 : tySz Tryd.prog 70 = some 3 ∧ tyAgg Tryd.prog 70 = some true ∧ tyBytes Tryd.prog 70 = some 32 ∧ fldsOk Tryd.prog 70 = true ∧ tyFld Tryd.prog 70 0 = some (0, 9) ∧ tyFld Tryd.prog 70 1 = some (1, 3) ∧ tyFld Tryd.prog 70 2 = some (2, 4) := by decide +kernel
theorem Z70 : tyZero Tryd.prog 70 = some [.string ⟨#[]⟩, .int .i64 0, .bool false] := by kernel_rfl
theorem T80 : tySz Tryd.prog 80 = some 3 ∧ tyAgg Tryd.prog 80 = some true ∧ tyBytes Tryd.prog 80 = some 32 ∧ fldsOk Tryd.prog 80 = true ∧ tyFld Tryd.prog 80 0 = some (0, 9) ∧ tyFld Tryd.prog 80 1 = some (1, 3) ∧ tyFld Tryd.prog 80 2 = some (2, 4) := by decide +kernel
theorem Z80 : tyZero Tryd.prog 80 = some [.string ⟨#[]⟩, .int .i64 0, .bool false] := by kernel_rfl
theorem T81 : tySz Tryd.prog 81 = some 3 ∧ tyAgg Tryd.prog 81 = some true ∧ tyBytes Tryd.prog 81 = some 32 ∧ fldsOk Tryd.prog 81 = true ∧ tyFld Tryd.prog 81 0 = some (0, 9) ∧ tyFld Tryd.prog 81 1 = some (1, 3) ∧ tyFld Tryd.prog 81 2 = some (2, 4) := by decide +kernel
theorem Z81 : tyZero Tryd.prog 81 = some [.string ⟨#[]⟩, .int .i64 0, .bool false] := by kernel_rfl
theorem T88 : tySz Tryd.prog 88 = some 1 ∧ tyAgg Tryd.prog 88 = some false ∧ tyBytes Tryd.prog 88 = some 24 ∧ tyElem Tryd.prog 88 = some 5 := by decide +kernel
theorem Z88 : tyZero Tryd.prog 88 = some [.slice none 0 0] := by kernel_rfl
theorem T90 : tySz Tryd.prog 90 = some 1 ∧ tyAgg Tryd.prog 90 = some false ∧ tyBytes Tryd.prog 90 = some 4 := by decide +kernel
theorem Z90 : tyZero Tryd.prog 90 = some [.int .u32 0] := by kernel_rfl
theorem U90 : Tryd.prog.underlying 90 = some (.int .u32) := by kernel_rfl
theorem T98 : tySz Tryd.prog 98 = some 1 ∧ tyAgg Tryd.prog 98 = some false ∧ tyBytes Tryd.prog 98 = some 8 := by decide +kernel
theorem Z98 : tyZero Tryd.prog 98 = some [.pointer none] := by kernel_rfl
theorem T101 : tySz Tryd.prog 101 = some 1 ∧ tyAgg Tryd.prog 101 = some false ∧ tyBytes Tryd.prog 101 = some 8 := by decide +kernel
theorem Z101 : tyZero Tryd.prog 101 = some [.int .u64 0] := by kernel_rfl
theorem U101 : Tryd.prog.underlying 101 = some (.int .u64) := by kernel_rfl
theorem T107 : tySz Tryd.prog 107 = some 1 ∧ tyAgg Tryd.prog 107 = some false ∧ tyBytes Tryd.prog 107 = some 8 := by decide +kernel
theorem Z107 : tyZero Tryd.prog 107 = some [.int .u64 0] := by kernel_rfl
theorem U107 : Tryd.prog.underlying 107 = some (.int .u64) := by kernel_rfl
theorem T120 : tySz Tryd.prog 120 = some 4 ∧ tyAgg Tryd.prog 120 = some true ∧ tyBytes Tryd.prog 120 = some 40 ∧ fldsOk Tryd.prog 120 = true ∧ tyFld Tryd.prog 120 0 = some (0, 17) ∧ tyFld Tryd.prog 120 1 = some (1, 17) ∧ tyFld Tryd.prog 120 2 = some (2, 17) ∧ tyFld Tryd.prog 120 3 = some (3, 9) := by decide +kernel
theorem Z120 : tyZero Tryd.prog 120 = some [.pointer none, .pointer none, .pointer none, .string ⟨#[]⟩] := by kernel_rfl
theorem T121 : tySz Tryd.prog 121 = some 4 ∧ tyAgg Tryd.prog 121 = some true ∧ tyBytes Tryd.prog 121 = some 40 ∧ fldsOk Tryd.prog 121 = true ∧ tyFld Tryd.prog 121 0 = some (0, 17) ∧ tyFld Tryd.prog 121 1 = some (1, 17) ∧ tyFld Tryd.prog 121 2 = some (2, 17) ∧ tyFld Tryd.prog 121 3 = some (3, 9) := by decide +kernel
theorem Z121 : tyZero Tryd.prog 121 = some [.pointer none, .pointer none, .pointer none, .string ⟨#[]⟩] := by kernel_rfl
theorem T125 : tySz Tryd.prog 125 = some 1 ∧ tyAgg Tryd.prog 125 = some false ∧ tyBytes Tryd.prog 125 = some 1 := by decide +kernel
theorem Z125 : tyZero Tryd.prog 125 = some [.int .u8 0] := by kernel_rfl
theorem U125 : Tryd.prog.underlying 125 = some (.int .u8) := by kernel_rfl
theorem T126 : tySz Tryd.prog 126 = some 1 ∧ tyAgg Tryd.prog 126 = some false ∧ tyBytes Tryd.prog 126 = some 1 := by decide +kernel
theorem Z126 : tyZero Tryd.prog 126 = some [.int .u8 0] := by kernel_rfl
theorem U126 : Tryd.prog.underlying 126 = some (.int .u8) := by kernel_rfl
theorem T128 : tySz Tryd.prog 128 = some 1 ∧ tyAgg Tryd.prog 128 = some false ∧ tyBytes Tryd.prog 128 = some 8 := by decide +kernel
theorem Z128 : tyZero Tryd.prog 128 = some [.pointer none] := by kernel_rfl
theorem T129 : tySz Tryd.prog 129 = some 1 ∧ tyAgg Tryd.prog 129 = some false ∧ tyBytes Tryd.prog 129 = some 4 := by decide +kernel
theorem Z129 : tyZero Tryd.prog 129 = some [.int .i32 0] := by kernel_rfl
theorem U129 : Tryd.prog.underlying 129 = some (.int .i32) := by kernel_rfl
theorem T130 : tySz Tryd.prog 130 = some 1 ∧ tyAgg Tryd.prog 130 = some false ∧ tyBytes Tryd.prog 130 = some 4 := by decide +kernel
theorem Z130 : tyZero Tryd.prog 130 = some [.int .i32 0] := by kernel_rfl
theorem U130 : Tryd.prog.underlying 130 = some (.int .i32) := by kernel_rfl
theorem T131 : tySz Tryd.prog 131 = some 11 ∧ tyAgg Tryd.prog 131 = some true ∧ tyBytes Tryd.prog 131 = some 48 ∧ fldsOk Tryd.prog 131 = true ∧ tyFld Tryd.prog 131 0 = some (0, 12) ∧ tyFld Tryd.prog 131 1 = some (1, 12) ∧ tyFld Tryd.prog 131 2 = some (2, 90) ∧ tyFld Tryd.prog 131 3 = some (3, 125) ∧ tyFld Tryd.prog 131 4 = some (4, 5) ∧ tyFld Tryd.prog 131 5 = some (5, 5) ∧ tyFld Tryd.prog 131 6 = some (6, 126) ∧ tyFld Tryd.prog 131 7 = some (7, 127) ∧ tyFld Tryd.prog 131 8 = some (8, 128) ∧ tyFld Tryd.prog 131 9 = some (9, 129) ∧ tyFld Tryd.prog 131 10 = some (10, 130) := by decide +kernel
theorem Z131 : tyZero Tryd.prog 131 = some [.int .u64 0, .int .u64 0, .int .u32 0, .int .u8 0, .int .u8 0, .int .u8 0, .int .u8 0, .nilFunc, .pointer none, .int .i32 0, .int .i32 0] := by kernel_rfl
theorem T132 : tySz Tryd.prog 132 = some 11 ∧ tyAgg Tryd.prog 132 = some true ∧ tyBytes Tryd.prog 132 = some 48 ∧ fldsOk Tryd.prog 132 = true ∧ tyFld Tryd.prog 132 0 = some (0, 12) ∧ tyFld Tryd.prog 132 1 = some (1, 12) ∧ tyFld Tryd.prog 132 2 = some (2, 90) ∧ tyFld Tryd.prog 132 3 = some (3, 125) ∧ tyFld Tryd.prog 132 4 = some (4, 5) ∧ tyFld Tryd.prog 132 5 = some (5, 5) ∧ tyFld Tryd.prog 132 6 = some (6, 126) ∧ tyFld Tryd.prog 132 7 = some (7, 127) ∧ tyFld Tryd.prog 132 8 = some (8, 128) ∧ tyFld Tryd.prog 132 9 = some (9, 129) ∧ tyFld Tryd.prog 132 10 = some (10, 130) := by decide +kernel
theorem Z132 : tyZero Tryd.prog 132 = some [.int .u64 0, .int .u64 0, .int .u32 0, .int .u8 0, .int .u8 0, .int .u8 0, .int .u8 0, .nilFunc, .pointer none, .int .i32 0, .int .i32 0] := by kernel_rfl
attribute [push_cast] T2 Z2 U2 T3 Z3 U3 T4 Z4 U4 T5 Z5 U5 T6 Z6 U6 T7 Z7 T8 Z8 T9 Z9 U9 T10 Z10 U10 T11 Z11 U11 T12 Z12 U12 T13 Z13 T14 Z14 T15 Z15 T16 Z16 T17
attribute [push_cast] Z17 T18 Z18 T19 Z19 T21 Z21 U21 T22 Z22 T23 Z23 T24 Z24 T26 Z26 T27 Z27 T28 Z28 T31 Z31 T32 Z32 T33 Z33 T40 Z40 T47 Z47 T48 Z48 T59 Z59 T60 Z60 T63 Z63 T68 Z68
attribute [push_cast] T69 Z69 T70 Z70 T80 Z80 T81 Z81 T88 Z88 T90 Z90 U90 T98 Z98 T101 Z101 U101 T107 Z107 U107 T120 Z120 T121 Z121 T125 Z125 U125 T126 Z126 U126 T128 Z128 T129 Z129 U129 T130 Z130 U130 T131
attribute [push_cast] Z131 T132 Z132
end Go.Proofs.YtennhlaibefacaaDoor
