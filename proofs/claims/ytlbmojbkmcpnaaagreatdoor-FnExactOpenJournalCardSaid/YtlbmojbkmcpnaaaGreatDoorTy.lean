/- What the types of this seat's program are: sizes, fields, zero values: each a closed fact. -/
import Derived.Test.YtlbmojbkmcpnaaaGreatDoorProg
import Derived.Test.YtlbmojbkmcpnaaaGreatDoorRxIII
namespace Go.Proofs.YtlbmojbkmcpnaaaGreatDoor
open Go.Rx
theorem T2 : tySz Tryz.prog 2 = some 1 ∧ tyAgg Tryz.prog 2 = some false ∧ tyBytes Tryz.prog 2 = some 8 := by decide +kernel
theorem Z2 : tyZero Tryz.prog 2 = some [.int .i64 0] := by kernel_rfl
theorem U2 : Tryz.prog.underlying 2 = some (.int .i64) := by kernel_rfl
theorem T3 : tySz Tryz.prog 3 = some 1 ∧ tyAgg Tryz.prog 3 = some false ∧ tyBytes Tryz.prog 3 = some 8 := by decide +kernel
theorem Z3 : tyZero Tryz.prog 3 = some [.int .i64 0] := by kernel_rfl
theorem U3 : Tryz.prog.underlying 3 = some (.int .i64) := by kernel_rfl
theorem T4 : tySz Tryz.prog 4 = some 1 ∧ tyAgg Tryz.prog 4 = some false ∧ tyBytes Tryz.prog 4 = some 1 := by decide +kernel
theorem Z4 : tyZero Tryz.prog 4 = some [.bool false] := by kernel_rfl
theorem U4 : Tryz.prog.underlying 4 = some .bool := by kernel_rfl
theorem T5 : tySz Tryz.prog 5 = some 1 ∧ tyAgg Tryz.prog 5 = some false ∧ tyBytes Tryz.prog 5 = some 1 := by decide +kernel
theorem Z5 : tyZero Tryz.prog 5 = some [.int .u8 0] := by kernel_rfl
theorem U5 : Tryz.prog.underlying 5 = some (.int .u8) := by kernel_rfl
theorem T6 : tySz Tryz.prog 6 = some 1 ∧ tyAgg Tryz.prog 6 = some false ∧ tyBytes Tryz.prog 6 = some 1 := by decide +kernel
theorem Z6 : tyZero Tryz.prog 6 = some [.int .u8 0] := by kernel_rfl
theorem U6 : Tryz.prog.underlying 6 = some (.int .u8) := by kernel_rfl
theorem T7 : tySz Tryz.prog 7 = some 4 ∧ tyAgg Tryz.prog 7 = some true ∧ tyBytes Tryz.prog 7 = some 24 ∧ fldsOk Tryz.prog 7 = true ∧ tyFld Tryz.prog 7 0 = some (0, 2) ∧ tyFld Tryz.prog 7 1 = some (1, 3) ∧ tyFld Tryz.prog 7 2 = some (2, 4) ∧ tyFld Tryz.prog 7 3 = some (3, 6) := by decide +kernel
theorem Z7 : tyZero Tryz.prog 7 = some [.int .i64 0, .int .i64 0, .bool false, .int .u8 0] := by kernel_rfl
theorem T8 : tySz Tryz.prog 8 = some 4 ∧ tyAgg Tryz.prog 8 = some true ∧ tyBytes Tryz.prog 8 = some 24 ∧ fldsOk Tryz.prog 8 = true ∧ tyFld Tryz.prog 8 0 = some (0, 2) ∧ tyFld Tryz.prog 8 1 = some (1, 3) ∧ tyFld Tryz.prog 8 2 = some (2, 4) ∧ tyFld Tryz.prog 8 3 = some (3, 6) := by decide +kernel
theorem Z8 : tyZero Tryz.prog 8 = some [.int .i64 0, .int .i64 0, .bool false, .int .u8 0] := by kernel_rfl
theorem T9 : tySz Tryz.prog 9 = some 1 ∧ tyAgg Tryz.prog 9 = some false ∧ tyBytes Tryz.prog 9 = some 16 := by decide +kernel
theorem Z9 : tyZero Tryz.prog 9 = some [.string ⟨#[]⟩] := by kernel_rfl
theorem U9 : Tryz.prog.underlying 9 = some .string := by kernel_rfl
theorem T10 : tySz Tryz.prog 10 = some 1 ∧ tyAgg Tryz.prog 10 = some false ∧ tyBytes Tryz.prog 10 = some 16 := by decide +kernel
theorem Z10 : tyZero Tryz.prog 10 = some [.string ⟨#[]⟩] := by kernel_rfl
theorem U10 : Tryz.prog.underlying 10 = some .string := by kernel_rfl
theorem T11 : tySz Tryz.prog 11 = some 1 ∧ tyAgg Tryz.prog 11 = some false ∧ tyBytes Tryz.prog 11 = some 16 := by decide +kernel
theorem Z11 : tyZero Tryz.prog 11 = some [.string ⟨#[]⟩] := by kernel_rfl
theorem U11 : Tryz.prog.underlying 11 = some .string := by kernel_rfl
theorem T12 : tySz Tryz.prog 12 = some 1 ∧ tyAgg Tryz.prog 12 = some false ∧ tyBytes Tryz.prog 12 = some 8 := by decide +kernel
theorem Z12 : tyZero Tryz.prog 12 = some [.int .u64 0] := by kernel_rfl
theorem U12 : Tryz.prog.underlying 12 = some (.int .u64) := by kernel_rfl
theorem T13 : tySz Tryz.prog 13 = some 2 ∧ tyAgg Tryz.prog 13 = some true ∧ tyBytes Tryz.prog 13 = some 24 ∧ fldsOk Tryz.prog 13 = true ∧ tyFld Tryz.prog 13 0 = some (0, 9) ∧ tyFld Tryz.prog 13 1 = some (1, 12) := by decide +kernel
theorem Z13 : tyZero Tryz.prog 13 = some [.string ⟨#[]⟩, .int .u64 0] := by kernel_rfl
theorem T14 : tySz Tryz.prog 14 = some 2 ∧ tyAgg Tryz.prog 14 = some true ∧ tyBytes Tryz.prog 14 = some 24 ∧ fldsOk Tryz.prog 14 = true ∧ tyFld Tryz.prog 14 0 = some (0, 9) ∧ tyFld Tryz.prog 14 1 = some (1, 12) := by decide +kernel
theorem Z14 : tyZero Tryz.prog 14 = some [.string ⟨#[]⟩, .int .u64 0] := by kernel_rfl
theorem T15 : tySz Tryz.prog 15 = some 1 ∧ tyAgg Tryz.prog 15 = some false ∧ tyBytes Tryz.prog 15 = some 8 := by decide +kernel
theorem Z15 : tyZero Tryz.prog 15 = some [.pointer none] := by kernel_rfl
theorem T16 : tySz Tryz.prog 16 = some 1 ∧ tyAgg Tryz.prog 16 = some false ∧ tyBytes Tryz.prog 16 = some 8 := by decide +kernel
theorem Z16 : tyZero Tryz.prog 16 = some [.pointer none] := by kernel_rfl
theorem T17 : tySz Tryz.prog 17 = some 1 ∧ tyAgg Tryz.prog 17 = some false ∧ tyBytes Tryz.prog 17 = some 8 := by decide +kernel
theorem Z17 : tyZero Tryz.prog 17 = some [.pointer none] := by kernel_rfl
theorem T18 : tySz Tryz.prog 18 = some 1 ∧ tyAgg Tryz.prog 18 = some true ∧ tyBytes Tryz.prog 18 = some 8 ∧ fldsOk Tryz.prog 18 = true ∧ tyFld Tryz.prog 18 0 = some (0, 17) := by decide +kernel
theorem Z18 : tyZero Tryz.prog 18 = some [.pointer none] := by kernel_rfl
theorem T19 : tySz Tryz.prog 19 = some 1 ∧ tyAgg Tryz.prog 19 = some true ∧ tyBytes Tryz.prog 19 = some 8 ∧ fldsOk Tryz.prog 19 = true ∧ tyFld Tryz.prog 19 0 = some (0, 17) := by decide +kernel
theorem Z19 : tyZero Tryz.prog 19 = some [.pointer none] := by kernel_rfl
theorem T21 : tySz Tryz.prog 21 = some 1 ∧ tyAgg Tryz.prog 21 = some false ∧ tyBytes Tryz.prog 21 = some 4 := by decide +kernel
theorem Z21 : tyZero Tryz.prog 21 = some [.int .i32 0] := by kernel_rfl
theorem U21 : Tryz.prog.underlying 21 = some (.int .i32) := by kernel_rfl
theorem T22 : tySz Tryz.prog 22 = some 1 ∧ tyAgg Tryz.prog 22 = some false ∧ tyBytes Tryz.prog 22 = some 24 ∧ tyElem Tryz.prog 22 = some 90 := by decide +kernel
theorem Z22 : tyZero Tryz.prog 22 = some [.slice none 0 0] := by kernel_rfl
theorem T23 : tySz Tryz.prog 23 = some 1 ∧ tyAgg Tryz.prog 23 = some true ∧ tyBytes Tryz.prog 23 = some 24 ∧ fldsOk Tryz.prog 23 = true ∧ tyFld Tryz.prog 23 0 = some (0, 22) := by decide +kernel
theorem Z23 : tyZero Tryz.prog 23 = some [.slice none 0 0] := by kernel_rfl
theorem T24 : tySz Tryz.prog 24 = some 1 ∧ tyAgg Tryz.prog 24 = some true ∧ tyBytes Tryz.prog 24 = some 24 ∧ fldsOk Tryz.prog 24 = true ∧ tyFld Tryz.prog 24 0 = some (0, 22) := by decide +kernel
theorem Z24 : tyZero Tryz.prog 24 = some [.slice none 0 0] := by kernel_rfl
theorem T26 : tySz Tryz.prog 26 = some 1 ∧ tyAgg Tryz.prog 26 = some false ∧ tyBytes Tryz.prog 26 = some 24 ∧ tyElem Tryz.prog 26 = some 84 := by decide +kernel
theorem Z26 : tyZero Tryz.prog 26 = some [.slice none 0 0] := by kernel_rfl
theorem T27 : tySz Tryz.prog 27 = some 3 ∧ tyAgg Tryz.prog 27 = some true ∧ tyBytes Tryz.prog 27 = some 40 ∧ fldsOk Tryz.prog 27 = true ∧ tyFld Tryz.prog 27 0 = some (0, 3) ∧ tyFld Tryz.prog 27 1 = some (1, 3) ∧ tyFld Tryz.prog 27 2 = some (2, 26) := by decide +kernel
theorem Z27 : tyZero Tryz.prog 27 = some [.int .i64 0, .int .i64 0, .slice none 0 0] := by kernel_rfl
theorem T28 : tySz Tryz.prog 28 = some 3 ∧ tyAgg Tryz.prog 28 = some true ∧ tyBytes Tryz.prog 28 = some 40 ∧ fldsOk Tryz.prog 28 = true ∧ tyFld Tryz.prog 28 0 = some (0, 3) ∧ tyFld Tryz.prog 28 1 = some (1, 3) ∧ tyFld Tryz.prog 28 2 = some (2, 26) := by decide +kernel
theorem Z28 : tyZero Tryz.prog 28 = some [.int .i64 0, .int .i64 0, .slice none 0 0] := by kernel_rfl
theorem T29 : tySz Tryz.prog 29 = some 6 ∧ tyAgg Tryz.prog 29 = some true ∧ tyBytes Tryz.prog 29 = some 64 ∧ fldsOk Tryz.prog 29 = true ∧ tyFld Tryz.prog 29 0 = some (0, 3) ∧ tyFld Tryz.prog 29 1 = some (1, 3) ∧ tyFld Tryz.prog 29 2 = some (2, 3) ∧ tyFld Tryz.prog 29 3 = some (3, 28) := by decide +kernel
theorem Z29 : tyZero Tryz.prog 29 = some [.int .i64 0, .int .i64 0, .int .i64 0, .int .i64 0, .int .i64 0, .slice none 0 0] := by kernel_rfl
theorem T30 : tySz Tryz.prog 30 = some 6 ∧ tyAgg Tryz.prog 30 = some true ∧ tyBytes Tryz.prog 30 = some 64 ∧ fldsOk Tryz.prog 30 = true ∧ tyFld Tryz.prog 30 0 = some (0, 3) ∧ tyFld Tryz.prog 30 1 = some (1, 3) ∧ tyFld Tryz.prog 30 2 = some (2, 3) ∧ tyFld Tryz.prog 30 3 = some (3, 28) := by decide +kernel
theorem Z30 : tyZero Tryz.prog 30 = some [.int .i64 0, .int .i64 0, .int .i64 0, .int .i64 0, .int .i64 0, .slice none 0 0] := by kernel_rfl
theorem T31 : tySz Tryz.prog 31 = some 1 ∧ tyAgg Tryz.prog 31 = some false ∧ tyBytes Tryz.prog 31 = some 24 ∧ tyElem Tryz.prog 31 = some 67 := by decide +kernel
theorem Z31 : tyZero Tryz.prog 31 = some [.slice none 0 0] := by kernel_rfl
theorem T34 : tySz Tryz.prog 34 = some 1 ∧ tyAgg Tryz.prog 34 = some false ∧ tyBytes Tryz.prog 34 = some 24 ∧ tyElem Tryz.prog 34 = some 59 := by decide +kernel
theorem Z34 : tyZero Tryz.prog 34 = some [.slice none 0 0] := by kernel_rfl
theorem T35 : tySz Tryz.prog 35 = some 1 ∧ tyAgg Tryz.prog 35 = some true ∧ tyBytes Tryz.prog 35 = some 24 ∧ fldsOk Tryz.prog 35 = true ∧ tyFld Tryz.prog 35 0 = some (0, 34) := by decide +kernel
theorem Z35 : tyZero Tryz.prog 35 = some [.slice none 0 0] := by kernel_rfl
theorem T36 : tySz Tryz.prog 36 = some 1 ∧ tyAgg Tryz.prog 36 = some true ∧ tyBytes Tryz.prog 36 = some 24 ∧ fldsOk Tryz.prog 36 = true ∧ tyFld Tryz.prog 36 0 = some (0, 34) := by decide +kernel
theorem Z36 : tyZero Tryz.prog 36 = some [.slice none 0 0] := by kernel_rfl
theorem T45 : tySz Tryz.prog 45 = some 1 ∧ tyAgg Tryz.prog 45 = some false ∧ tyBytes Tryz.prog 45 = some 24 ∧ tyElem Tryz.prog 45 = some 150 := by decide +kernel
theorem Z45 : tyZero Tryz.prog 45 = some [.slice none 0 0] := by kernel_rfl
theorem T46 : tySz Tryz.prog 46 = some 3 ∧ tyAgg Tryz.prog 46 = some true ∧ tyBytes Tryz.prog 46 = some 40 ∧ fldsOk Tryz.prog 46 = true ∧ tyFld Tryz.prog 46 0 = some (0, 3) ∧ tyFld Tryz.prog 46 1 = some (1, 3) ∧ tyFld Tryz.prog 46 2 = some (2, 45) := by decide +kernel
theorem Z46 : tyZero Tryz.prog 46 = some [.int .i64 0, .int .i64 0, .slice none 0 0] := by kernel_rfl
theorem T47 : tySz Tryz.prog 47 = some 3 ∧ tyAgg Tryz.prog 47 = some true ∧ tyBytes Tryz.prog 47 = some 40 ∧ fldsOk Tryz.prog 47 = true ∧ tyFld Tryz.prog 47 0 = some (0, 3) ∧ tyFld Tryz.prog 47 1 = some (1, 3) ∧ tyFld Tryz.prog 47 2 = some (2, 45) := by decide +kernel
theorem Z47 : tyZero Tryz.prog 47 = some [.int .i64 0, .int .i64 0, .slice none 0 0] := by kernel_rfl
theorem T48 : tySz Tryz.prog 48 = some 6 ∧ tyAgg Tryz.prog 48 = some true ∧ tyBytes Tryz.prog 48 = some 64 ∧ fldsOk Tryz.prog 48 = true ∧ tyFld Tryz.prog 48 0 = some (0, 3) ∧ tyFld Tryz.prog 48 1 = some (1, 3) ∧ tyFld Tryz.prog 48 2 = some (2, 3) ∧ tyFld Tryz.prog 48 3 = some (3, 47) := by decide +kernel
theorem Z48 : tyZero Tryz.prog 48 = some [.int .i64 0, .int .i64 0, .int .i64 0, .int .i64 0, .int .i64 0, .slice none 0 0] := by kernel_rfl
theorem T49 : tySz Tryz.prog 49 = some 6 ∧ tyAgg Tryz.prog 49 = some true ∧ tyBytes Tryz.prog 49 = some 64 ∧ fldsOk Tryz.prog 49 = true ∧ tyFld Tryz.prog 49 0 = some (0, 3) ∧ tyFld Tryz.prog 49 1 = some (1, 3) ∧ tyFld Tryz.prog 49 2 = some (2, 3) ∧ tyFld Tryz.prog 49 3 = some (3, 47) := by decide +kernel
theorem Z49 : tyZero Tryz.prog 49 = some [.int .i64 0, .int .i64 0, .int .i64 0, .int .i64 0, .int .i64 0, .slice none 0 0] := by kernel_rfl
theorem T58 : tySz Tryz.prog 58 = some 3 ∧ tyAgg Tryz.prog 58 = some true ∧ tyBytes Tryz.prog 58 = some 40 ∧ fldsOk Tryz.prog 58 = true ∧ tyFld Tryz.prog 58 0 = some (0, 9) ∧ tyFld Tryz.prog 58 1 = some (1, 9) ∧ tyFld Tryz.prog 58 2 = some (2, 3) := by decide +kernel
theorem Z58 : tyZero Tryz.prog 58 = some [.string ⟨#[]⟩, .string ⟨#[]⟩, .int .i64 0] := by kernel_rfl
theorem T59 : tySz Tryz.prog 59 = some 3 ∧ tyAgg Tryz.prog 59 = some true ∧ tyBytes Tryz.prog 59 = some 40 ∧ fldsOk Tryz.prog 59 = true ∧ tyFld Tryz.prog 59 0 = some (0, 9) ∧ tyFld Tryz.prog 59 1 = some (1, 9) ∧ tyFld Tryz.prog 59 2 = some (2, 3) := by decide +kernel
theorem Z59 : tyZero Tryz.prog 59 = some [.string ⟨#[]⟩, .string ⟨#[]⟩, .int .i64 0] := by kernel_rfl
theorem T66 : tySz Tryz.prog 66 = some 4 ∧ tyAgg Tryz.prog 66 = some true ∧ tyBytes Tryz.prog 66 = some 56 ∧ fldsOk Tryz.prog 66 = true ∧ tyFld Tryz.prog 66 0 = some (0, 3) ∧ tyFld Tryz.prog 66 1 = some (1, 9) ∧ tyFld Tryz.prog 66 2 = some (2, 9) ∧ tyFld Tryz.prog 66 3 = some (3, 9) := by decide +kernel
theorem Z66 : tyZero Tryz.prog 66 = some [.int .i64 0, .string ⟨#[]⟩, .string ⟨#[]⟩, .string ⟨#[]⟩] := by kernel_rfl
theorem T67 : tySz Tryz.prog 67 = some 4 ∧ tyAgg Tryz.prog 67 = some true ∧ tyBytes Tryz.prog 67 = some 56 ∧ fldsOk Tryz.prog 67 = true ∧ tyFld Tryz.prog 67 0 = some (0, 3) ∧ tyFld Tryz.prog 67 1 = some (1, 9) ∧ tyFld Tryz.prog 67 2 = some (2, 9) ∧ tyFld Tryz.prog 67 3 = some (3, 9) := by decide +kernel
theorem Z67 : tyZero Tryz.prog 67 = some [.int .i64 0, .string ⟨#[]⟩, .string ⟨#[]⟩, .string ⟨#[]⟩] := by kernel_rfl
theorem T83 : tySz Tryz.prog 83 = some 3 ∧ tyAgg Tryz.prog 83 = some true ∧ tyBytes Tryz.prog 83 = some 32 ∧ fldsOk Tryz.prog 83 = true ∧ tyFld Tryz.prog 83 0 = some (0, 3) ∧ tyFld Tryz.prog 83 1 = some (1, 3) ∧ tyFld Tryz.prog 83 2 = some (2, 9) := by decide +kernel
theorem Z83 : tyZero Tryz.prog 83 = some [.int .i64 0, .int .i64 0, .string ⟨#[]⟩] := by kernel_rfl
theorem T84 : tySz Tryz.prog 84 = some 3 ∧ tyAgg Tryz.prog 84 = some true ∧ tyBytes Tryz.prog 84 = some 32 ∧ fldsOk Tryz.prog 84 = true ∧ tyFld Tryz.prog 84 0 = some (0, 3) ∧ tyFld Tryz.prog 84 1 = some (1, 3) ∧ tyFld Tryz.prog 84 2 = some (2, 9) := by decide +kernel
theorem Z84 : tyZero Tryz.prog 84 = some [.int .i64 0, .int .i64 0, .string ⟨#[]⟩] := by kernel_rfl
theorem T90 : tySz Tryz.prog 90 = some 3 ∧ tyAgg Tryz.prog 90 = some true ∧ tyBytes Tryz.prog 90 = some 40 ∧ fldsOk Tryz.prog 90 = true ∧ tyFld Tryz.prog 90 0 = some (0, 9) ∧ tyFld Tryz.prog 90 1 = some (1, 9) ∧ tyFld Tryz.prog 90 2 = some (2, 3) := by decide +kernel
theorem Z90 : tyZero Tryz.prog 90 = some [.string ⟨#[]⟩, .string ⟨#[]⟩, .int .i64 0] := by kernel_rfl
theorem T92 : tySz Tryz.prog 92 = some 1 ∧ tyAgg Tryz.prog 92 = some false ∧ tyBytes Tryz.prog 92 = some 24 ∧ tyElem Tryz.prog 92 = some 9 := by decide +kernel
theorem Z92 : tyZero Tryz.prog 92 = some [.slice none 0 0] := by kernel_rfl
theorem T99 : tySz Tryz.prog 99 = some 1 ∧ tyAgg Tryz.prog 99 = some false ∧ tyBytes Tryz.prog 99 = some 8 := by decide +kernel
theorem Z99 : tyZero Tryz.prog 99 = some [.pointer none] := by kernel_rfl
theorem T105 : tySz Tryz.prog 105 = some 1 ∧ tyAgg Tryz.prog 105 = some false ∧ tyBytes Tryz.prog 105 = some 24 ∧ tyElem Tryz.prog 105 = some 3 := by decide +kernel
theorem Z105 : tyZero Tryz.prog 105 = some [.slice none 0 0] := by kernel_rfl
theorem T111 : tySz Tryz.prog 111 = some 1 ∧ tyAgg Tryz.prog 111 = some false ∧ tyBytes Tryz.prog 111 = some 24 ∧ tyElem Tryz.prog 111 = some 5 := by decide +kernel
theorem Z111 : tyZero Tryz.prog 111 = some [.slice none 0 0] := by kernel_rfl
theorem T118 : tySz Tryz.prog 118 = some 1 ∧ tyAgg Tryz.prog 118 = some false ∧ tyBytes Tryz.prog 118 = some 8 := by decide +kernel
theorem Z118 : tyZero Tryz.prog 118 = some [.pointer none] := by kernel_rfl
theorem T119 : tySz Tryz.prog 119 = some 2 ∧ tyAgg Tryz.prog 119 = some true ∧ tyBytes Tryz.prog 119 = some 32 ∧ fldsOk Tryz.prog 119 = true ∧ tyFld Tryz.prog 119 0 = some (0, 118) ∧ tyFld Tryz.prog 119 1 = some (1, 111) := by decide +kernel
theorem Z119 : tyZero Tryz.prog 119 = some [.pointer none, .slice none 0 0] := by kernel_rfl
theorem T120 : tySz Tryz.prog 120 = some 2 ∧ tyAgg Tryz.prog 120 = some true ∧ tyBytes Tryz.prog 120 = some 32 ∧ fldsOk Tryz.prog 120 = true ∧ tyFld Tryz.prog 120 0 = some (0, 118) ∧ tyFld Tryz.prog 120 1 = some (1, 111) := by decide +kernel
theorem Z120 : tyZero Tryz.prog 120 = some [.pointer none, .slice none 0 0] := by kernel_rfl
theorem T129 : tySz Tryz.prog 129 = some 1 ∧ tyAgg Tryz.prog 129 = some false ∧ tyBytes Tryz.prog 129 = some 8 := by decide +kernel
theorem Z129 : tyZero Tryz.prog 129 = some [.pointer none] := by kernel_rfl
theorem T130 : tySz Tryz.prog 130 = some 3 ∧ tyAgg Tryz.prog 130 = some true ∧ tyBytes Tryz.prog 130 = some 32 ∧ fldsOk Tryz.prog 130 = true ∧ tyFld Tryz.prog 130 0 = some (0, 9) ∧ tyFld Tryz.prog 130 1 = some (1, 3) ∧ tyFld Tryz.prog 130 2 = some (2, 4) := by decide +kernel
theorem Z130 : tyZero Tryz.prog 130 = some [.string ⟨#[]⟩, .int .i64 0, .bool false] := by kernel_rfl
theorem T131 : tySz Tryz.prog 131 = some 3 ∧ tyAgg Tryz.prog 131 = some true ∧ tyBytes Tryz.prog 131 = some 32 ∧ fldsOk Tryz.prog 131 = true ∧ tyFld Tryz.prog 131 0 = some (0, 9) ∧ tyFld Tryz.prog 131 1 = some (1, 3) ∧ tyFld Tryz.prog 131 2 = some (2, 4) := by decide +kernel
theorem Z131 : tyZero Tryz.prog 131 = some [.string ⟨#[]⟩, .int .i64 0, .bool false] := by kernel_rfl
theorem T140 : tySz Tryz.prog 140 = some 1 ∧ tyAgg Tryz.prog 140 = some false ∧ tyBytes Tryz.prog 140 = some 4 := by decide +kernel
theorem Z140 : tyZero Tryz.prog 140 = some [.int .u32 0] := by kernel_rfl
theorem U140 : Tryz.prog.underlying 140 = some (.int .u32) := by kernel_rfl
theorem T144 : tySz Tryz.prog 144 = some 3 ∧ tyAgg Tryz.prog 144 = some true ∧ tyBytes Tryz.prog 144 = some 32 ∧ fldsOk Tryz.prog 144 = true ∧ tyFld Tryz.prog 144 0 = some (0, 9) ∧ tyFld Tryz.prog 144 1 = some (1, 3) ∧ tyFld Tryz.prog 144 2 = some (2, 4) := by decide +kernel
theorem Z144 : tyZero Tryz.prog 144 = some [.string ⟨#[]⟩, .int .i64 0, .bool false] := by kernel_rfl
theorem T145 : tySz Tryz.prog 145 = some 3 ∧ tyAgg Tryz.prog 145 = some true ∧ tyBytes Tryz.prog 145 = some 32 ∧ fldsOk Tryz.prog 145 = true ∧ tyFld Tryz.prog 145 0 = some (0, 9) ∧ tyFld Tryz.prog 145 1 = some (1, 3) ∧ tyFld Tryz.prog 145 2 = some (2, 4) := by decide +kernel
theorem Z145 : tyZero Tryz.prog 145 = some [.string ⟨#[]⟩, .int .i64 0, .bool false] := by kernel_rfl
theorem T150 : tySz Tryz.prog 150 = some 3 ∧ tyAgg Tryz.prog 150 = some true ∧ tyBytes Tryz.prog 150 = some 32 ∧ fldsOk Tryz.prog 150 = true ∧ tyFld Tryz.prog 150 0 = some (0, 3) ∧ tyFld Tryz.prog 150 1 = some (1, 3) ∧ tyFld Tryz.prog 150 2 = some (2, 9) := by decide +kernel
theorem Z150 : tyZero Tryz.prog 150 = some [.int .i64 0, .int .i64 0, .string ⟨#[]⟩] := by kernel_rfl
theorem T154 : tySz Tryz.prog 154 = some 1 ∧ tyAgg Tryz.prog 154 = some false ∧ tyBytes Tryz.prog 154 = some 8 := by decide +kernel
theorem Z154 : tyZero Tryz.prog 154 = some [.pointer none] := by kernel_rfl
theorem T158 : tySz Tryz.prog 158 = some 1 ∧ tyAgg Tryz.prog 158 = some false ∧ tyBytes Tryz.prog 158 = some 8 := by decide +kernel
theorem Z158 : tyZero Tryz.prog 158 = some [.int .u64 0] := by kernel_rfl
theorem U158 : Tryz.prog.underlying 158 = some (.int .u64) := by kernel_rfl
theorem T161 : tySz Tryz.prog 161 = some 1 ∧ tyAgg Tryz.prog 161 = some false ∧ tyBytes Tryz.prog 161 = some 8 := by decide +kernel
theorem Z161 : tyZero Tryz.prog 161 = some [.pointer none] := by kernel_rfl
theorem T166 : tySz Tryz.prog 166 = some 1 ∧ tyAgg Tryz.prog 166 = some false ∧ tyBytes Tryz.prog 166 = some 8 := by decide +kernel
theorem Z166 : tyZero Tryz.prog 166 = some [.pointer none] := by kernel_rfl
theorem T170 : tySz Tryz.prog 170 = some 1 ∧ tyAgg Tryz.prog 170 = some false ∧ tyBytes Tryz.prog 170 = some 8 := by decide +kernel
theorem Z170 : tyZero Tryz.prog 170 = some [.int .u64 0] := by kernel_rfl
theorem U170 : Tryz.prog.underlying 170 = some (.int .u64) := by kernel_rfl
theorem T183 : tySz Tryz.prog 183 = some 4 ∧ tyAgg Tryz.prog 183 = some true ∧ tyBytes Tryz.prog 183 = some 40 ∧ fldsOk Tryz.prog 183 = true ∧ tyFld Tryz.prog 183 0 = some (0, 17) ∧ tyFld Tryz.prog 183 1 = some (1, 17) ∧ tyFld Tryz.prog 183 2 = some (2, 17) ∧ tyFld Tryz.prog 183 3 = some (3, 9) := by decide +kernel
theorem Z183 : tyZero Tryz.prog 183 = some [.pointer none, .pointer none, .pointer none, .string ⟨#[]⟩] := by kernel_rfl
theorem T184 : tySz Tryz.prog 184 = some 4 ∧ tyAgg Tryz.prog 184 = some true ∧ tyBytes Tryz.prog 184 = some 40 ∧ fldsOk Tryz.prog 184 = true ∧ tyFld Tryz.prog 184 0 = some (0, 17) ∧ tyFld Tryz.prog 184 1 = some (1, 17) ∧ tyFld Tryz.prog 184 2 = some (2, 17) ∧ tyFld Tryz.prog 184 3 = some (3, 9) := by decide +kernel
theorem Z184 : tyZero Tryz.prog 184 = some [.pointer none, .pointer none, .pointer none, .string ⟨#[]⟩] := by kernel_rfl
theorem T188 : tySz Tryz.prog 188 = some 1 ∧ tyAgg Tryz.prog 188 = some false ∧ tyBytes Tryz.prog 188 = some 1 := by decide +kernel
theorem Z188 : tyZero Tryz.prog 188 = some [.int .u8 0] := by kernel_rfl
theorem U188 : Tryz.prog.underlying 188 = some (.int .u8) := by kernel_rfl
theorem T189 : tySz Tryz.prog 189 = some 1 ∧ tyAgg Tryz.prog 189 = some false ∧ tyBytes Tryz.prog 189 = some 1 := by decide +kernel
theorem Z189 : tyZero Tryz.prog 189 = some [.int .u8 0] := by kernel_rfl
theorem U189 : Tryz.prog.underlying 189 = some (.int .u8) := by kernel_rfl
theorem T191 : tySz Tryz.prog 191 = some 1 ∧ tyAgg Tryz.prog 191 = some false ∧ tyBytes Tryz.prog 191 = some 4 := by decide +kernel
theorem Z191 : tyZero Tryz.prog 191 = some [.int .i32 0] := by kernel_rfl
theorem U191 : Tryz.prog.underlying 191 = some (.int .i32) := by kernel_rfl
theorem T192 : tySz Tryz.prog 192 = some 1 ∧ tyAgg Tryz.prog 192 = some false ∧ tyBytes Tryz.prog 192 = some 4 := by decide +kernel
theorem Z192 : tyZero Tryz.prog 192 = some [.int .i32 0] := by kernel_rfl
theorem U192 : Tryz.prog.underlying 192 = some (.int .i32) := by kernel_rfl
theorem T193 : tySz Tryz.prog 193 = some 11 ∧ tyAgg Tryz.prog 193 = some true ∧ tyBytes Tryz.prog 193 = some 48 ∧ fldsOk Tryz.prog 193 = true ∧ tyFld Tryz.prog 193 0 = some (0, 12) ∧ tyFld Tryz.prog 193 1 = some (1, 12) ∧ tyFld Tryz.prog 193 2 = some (2, 140) ∧ tyFld Tryz.prog 193 3 = some (3, 188) ∧ tyFld Tryz.prog 193 4 = some (4, 5) ∧ tyFld Tryz.prog 193 5 = some (5, 5) ∧ tyFld Tryz.prog 193 6 = some (6, 189) ∧ tyFld Tryz.prog 193 7 = some (7, 190) ∧ tyFld Tryz.prog 193 8 = some (8, 154) ∧ tyFld Tryz.prog 193 9 = some (9, 191) ∧ tyFld Tryz.prog 193 10 = some (10, 192) := by decide +kernel
theorem Z193 : tyZero Tryz.prog 193 = some [.int .u64 0, .int .u64 0, .int .u32 0, .int .u8 0, .int .u8 0, .int .u8 0, .int .u8 0, .nilFunc, .pointer none, .int .i32 0, .int .i32 0] := by kernel_rfl
theorem T194 : tySz Tryz.prog 194 = some 11 ∧ tyAgg Tryz.prog 194 = some true ∧ tyBytes Tryz.prog 194 = some 48 ∧ fldsOk Tryz.prog 194 = true ∧ tyFld Tryz.prog 194 0 = some (0, 12) ∧ tyFld Tryz.prog 194 1 = some (1, 12) ∧ tyFld Tryz.prog 194 2 = some (2, 140) ∧ tyFld Tryz.prog 194 3 = some (3, 188) ∧ tyFld Tryz.prog 194 4 = some (4, 5) ∧ tyFld Tryz.prog 194 5 = some (5, 5) ∧ tyFld Tryz.prog 194 6 = some (6, 189) ∧ tyFld Tryz.prog 194 7 = some (7, 190) ∧ tyFld Tryz.prog 194 8 = some (8, 154) ∧ tyFld Tryz.prog 194 9 = some (9, 191) ∧ tyFld Tryz.prog 194 10 = some (10, 192) := by decide +kernel
theorem Z194 : tyZero Tryz.prog 194 = some [.int .u64 0, .int .u64 0, .int .u32 0, .int .u8 0, .int .u8 0, .int .u8 0, .int .u8 0, .nilFunc, .pointer none, .int .i32 0, .int .i32 0] := by kernel_rfl
attribute [push_cast] T2 Z2 U2 T3 Z3 U3 T4 Z4 U4 T5 Z5 U5 T6 Z6 U6 T7 Z7 T8 Z8 T9 Z9 U9 T10 Z10 U10 T11 Z11 U11 T12 Z12 U12 T13 Z13 T14 Z14 T15 Z15 T16 Z16 T17
attribute [push_cast] Z17 T18 Z18 T19 Z19 T21 Z21 U21 T22 Z22 T23 Z23 T24 Z24 T26 Z26 T27 Z27 T28 Z28 T29 Z29 T30 Z30 T31 Z31 T34 Z34 T35 Z35 T36 Z36 T45 Z45 T46 Z46 T47 Z47 T48 Z48
attribute [push_cast] T49 Z49 T58 Z58 T59 Z59 T66 Z66 T67 Z67 T83 Z83 T84 Z84 T90 Z90 T92 Z92 T99 Z99 T105 Z105 T111 Z111 T118 Z118 T119 Z119 T120 Z120 T129 Z129 T130 Z130 T131 Z131 T140 Z140 U140 T144
attribute [push_cast] Z144 T145 Z145 T150 Z150 T154 Z154 T158 Z158 U158 T161 Z161 T166 Z166 T170 Z170 U170 T183 Z183 T184 Z184 T188 Z188 U188 T189 Z189 U189 T191 Z191 U191 T192 Z192 U192 T193 Z193 T194 Z194
end Go.Proofs.YtlbmojbkmcpnaaaGreatDoor
