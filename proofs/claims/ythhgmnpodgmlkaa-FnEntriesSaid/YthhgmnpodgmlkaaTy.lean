/- What the types of this seat's program are: sizes, fields, zero values: each a closed fact. -/
import Derived.Test.YthhgmnpodgmlkaaProg
import Derived.Test.YthhgmnpodgmlkaaRxIII
namespace Go.Proofs.Ythhgmnpodgmlkaa
open Go.Rx
theorem T3 : tySz Try.prog 3 = some 1 ∧ tyAgg Try.prog 3 = some false ∧ tyBytes Try.prog 3 = some 8 := by decide +kernel
theorem Z3 : tyZero Try.prog 3 = some [.int .i64 0] := by kernel_rfl
theorem U3 : Try.prog.underlying 3 = some (.int .i64) := by kernel_rfl
theorem T4 : tySz Try.prog 4 = some 1 ∧ tyAgg Try.prog 4 = some false ∧ tyBytes Try.prog 4 = some 1 := by decide +kernel
theorem Z4 : tyZero Try.prog 4 = some [.bool false] := by kernel_rfl
theorem U4 : Try.prog.underlying 4 = some .bool := by kernel_rfl
theorem T5 : tySz Try.prog 5 = some 1 ∧ tyAgg Try.prog 5 = some false ∧ tyBytes Try.prog 5 = some 1 := by decide +kernel
theorem Z5 : tyZero Try.prog 5 = some [.int .u8 0] := by kernel_rfl
theorem U5 : Try.prog.underlying 5 = some (.int .u8) := by kernel_rfl
theorem T9 : tySz Try.prog 9 = some 1 ∧ tyAgg Try.prog 9 = some false ∧ tyBytes Try.prog 9 = some 16 := by decide +kernel
theorem Z9 : tyZero Try.prog 9 = some [.string ⟨#[]⟩] := by kernel_rfl
theorem U9 : Try.prog.underlying 9 = some .string := by kernel_rfl
theorem T22 : tySz Try.prog 22 = some 1 ∧ tyAgg Try.prog 22 = some false ∧ tyBytes Try.prog 22 = some 24 ∧ tyElem Try.prog 22 = some 5 := by decide +kernel
theorem T25 : tySz Try.prog 25 = some 3 ∧ tyAgg Try.prog 25 = some true ∧ tyBytes Try.prog 25 = some 32 ∧ fldsOk Try.prog 25 = true ∧ tyFld Try.prog 25 0 = some (0, 3) ∧ tyFld Try.prog 25 1 = some (1, 3) ∧ tyFld Try.prog 25 2 = some (2, 9) := by decide +kernel
theorem Z25 : tyZero Try.prog 25 = some [.int .i64 0, .int .i64 0, .string ⟨#[]⟩] := by kernel_rfl
theorem T32 : tySz Try.prog 32 = some 1 ∧ tyAgg Try.prog 32 = some false ∧ tyBytes Try.prog 32 = some 24 ∧ tyElem Try.prog 32 = some 3 := by decide +kernel
theorem T70 : tySz Try.prog 70 = some 3 ∧ tyAgg Try.prog 70 = some true ∧ tyBytes Try.prog 70 = some 32 ∧ fldsOk Try.prog 70 = true ∧ tyFld Try.prog 70 0 = some (0, 9) ∧ tyFld Try.prog 70 1 = some (1, 3) ∧ tyFld Try.prog 70 2 = some (2, 4) := by decide +kernel
theorem Z70 : tyZero Try.prog 70 = some [.string ⟨#[]⟩, .int .i64 0, .bool false] := by kernel_rfl
theorem T105 : tySz Try.prog 105 = some 3 ∧ tyAgg Try.prog 105 = some true ∧ tyBytes Try.prog 105 = some 40 ∧ fldsOk Try.prog 105 = true ∧ tyFld Try.prog 105 0 = some (0, 22) ∧ tyFld Try.prog 105 1 = some (1, 3) ∧ tyFld Try.prog 105 2 = some (2, 3) := by decide +kernel
theorem Z105 : tyZero Try.prog 105 = some [.slice none 0 0, .int .i64 0, .int .i64 0] := by kernel_rfl
theorem T134 : tySz Try.prog 134 = some 8 ∧ tyAgg Try.prog 134 = some true ∧ tyBytes Try.prog 134 = some 80 ∧ fldsOk Try.prog 134 = true ∧ tyFld Try.prog 134 0 = some (0, 3) ∧ tyFld Try.prog 134 1 = some (1, 3) ∧ tyFld Try.prog 134 2 = some (2, 3) ∧ tyFld Try.prog 134 3 = some (3, 9) ∧ tyFld Try.prog 134 4 = some (4, 9) ∧ tyFld Try.prog 134 5 = some (5, 3) ∧ tyFld Try.prog 134 6 = some (6, 3) ∧ tyFld Try.prog 134 7 = some (7, 4) := by decide +kernel
theorem Z134 : tyZero Try.prog 134 = some [.int .i64 0, .int .i64 0, .int .i64 0, .string ⟨#[]⟩, .string ⟨#[]⟩, .int .i64 0, .int .i64 0, .bool false] := by kernel_rfl
theorem T149 : tySz Try.prog 149 = some 1 ∧ tyAgg Try.prog 149 = some false ∧ tyBytes Try.prog 149 = some 24 ∧ tyElem Try.prog 149 = some 156 := by decide +kernel
theorem T150 : tySz Try.prog 150 = some 1 ∧ tyAgg Try.prog 150 = some false ∧ tyBytes Try.prog 150 = some 24 ∧ tyElem Try.prog 150 = some 173 := by decide +kernel
theorem T151 : tySz Try.prog 151 = some 1 ∧ tyAgg Try.prog 151 = some false ∧ tyBytes Try.prog 151 = some 24 ∧ tyElem Try.prog 151 = some 179 := by decide +kernel
theorem T153 : tySz Try.prog 153 = some 5 ∧ tyAgg Try.prog 153 = some true ∧ tyBytes Try.prog 153 = some 88 ∧ fldsOk Try.prog 153 = true ∧ tyFld Try.prog 153 0 = some (0, 149) ∧ tyFld Try.prog 153 1 = some (1, 150) ∧ tyFld Try.prog 153 2 = some (2, 151) ∧ tyFld Try.prog 153 3 = some (3, 3) ∧ tyFld Try.prog 153 4 = some (4, 3) := by decide +kernel
theorem Z153 : tyZero Try.prog 153 = some [.slice none 0 0, .slice none 0 0, .slice none 0 0, .int .i64 0, .int .i64 0] := by kernel_rfl
theorem T156 : tySz Try.prog 156 = some 3 ∧ tyAgg Try.prog 156 = some true ∧ tyBytes Try.prog 156 = some 32 ∧ fldsOk Try.prog 156 = true ∧ tyFld Try.prog 156 0 = some (0, 3) ∧ tyFld Try.prog 156 1 = some (1, 3) ∧ tyFld Try.prog 156 2 = some (2, 9) := by decide +kernel
theorem Z156 : tyZero Try.prog 156 = some [.int .i64 0, .int .i64 0, .string ⟨#[]⟩] := by kernel_rfl
theorem T166 : tySz Try.prog 166 = some 1 ∧ tyAgg Try.prog 166 = some false ∧ tyBytes Try.prog 166 = some 24 ∧ tyElem Try.prog 166 = some 197 := by decide +kernel
theorem T168 : tySz Try.prog 168 = some 6 ∧ tyAgg Try.prog 168 = some true ∧ tyBytes Try.prog 168 = some 80 ∧ fldsOk Try.prog 168 = true ∧ tyFld Try.prog 168 0 = some (0, 9) ∧ tyFld Try.prog 168 1 = some (1, 9) ∧ tyFld Try.prog 168 2 = some (2, 3) ∧ tyFld Try.prog 168 3 = some (3, 3) ∧ tyFld Try.prog 168 4 = some (4, 4) ∧ tyFld Try.prog 168 5 = some (5, 166) := by decide +kernel
theorem Z168 : tyZero Try.prog 168 = some [.string ⟨#[]⟩, .string ⟨#[]⟩, .int .i64 0, .int .i64 0, .bool false, .slice none 0 0] := by kernel_rfl
theorem T173 : tySz Try.prog 173 = some 9 ∧ tyAgg Try.prog 173 = some true ∧ tyBytes Try.prog 173 = some 104 ∧ fldsOk Try.prog 173 = true ∧ tyFld Try.prog 173 0 = some (0, 168) ∧ tyFld Try.prog 173 1 = some (6, 4) ∧ tyFld Try.prog 173 2 = some (7, 3) ∧ tyFld Try.prog 173 3 = some (8, 3) := by decide +kernel
theorem Z173 : tyZero Try.prog 173 = some [.string ⟨#[]⟩, .string ⟨#[]⟩, .int .i64 0, .int .i64 0, .bool false, .slice none 0 0, .bool false, .int .i64 0, .int .i64 0] := by kernel_rfl
theorem T179 : tySz Try.prog 179 = some 5 ∧ tyAgg Try.prog 179 = some true ∧ tyBytes Try.prog 179 = some 64 ∧ fldsOk Try.prog 179 = true ∧ tyFld Try.prog 179 0 = some (0, 9) ∧ tyFld Try.prog 179 1 = some (1, 176) ∧ tyFld Try.prog 179 2 = some (3, 3) ∧ tyFld Try.prog 179 3 = some (4, 177) := by decide +kernel
theorem Z179 : tyZero Try.prog 179 = some [.string ⟨#[]⟩, .int .i64 0, .int .i64 0, .int .i64 0, .slice none 0 0] := by kernel_rfl
theorem T181 : tySz Try.prog 181 = some 1 ∧ tyAgg Try.prog 181 = some false ∧ tyBytes Try.prog 181 = some 24 ∧ tyElem Try.prog 181 = some 9 := by decide +kernel
theorem T197 : tySz Try.prog 197 = some 5 ∧ tyAgg Try.prog 197 = some true ∧ tyBytes Try.prog 197 = some 72 ∧ fldsOk Try.prog 197 = true ∧ tyFld Try.prog 197 0 = some (0, 9) ∧ tyFld Try.prog 197 1 = some (1, 9) ∧ tyFld Try.prog 197 2 = some (2, 3) ∧ tyFld Try.prog 197 3 = some (3, 4) ∧ tyFld Try.prog 197 4 = some (4, 181) := by decide +kernel
theorem Z197 : tyZero Try.prog 197 = some [.string ⟨#[]⟩, .string ⟨#[]⟩, .int .i64 0, .bool false, .slice none 0 0] := by kernel_rfl
theorem T199 : tySz Try.prog 199 = some 5 ∧ tyAgg Try.prog 199 = some true ∧ tyBytes Try.prog 199 = some 120 ∧ fldsOk Try.prog 199 = true ∧ tyFld Try.prog 199 0 = some (0, 32) ∧ tyFld Try.prog 199 1 = some (1, 32) ∧ tyFld Try.prog 199 2 = some (2, 32) ∧ tyFld Try.prog 199 3 = some (3, 32) ∧ tyFld Try.prog 199 4 = some (4, 32) := by decide +kernel
theorem Z199 : tyZero Try.prog 199 = some [.slice none 0 0, .slice none 0 0, .slice none 0 0, .slice none 0 0, .slice none 0 0] := by kernel_rfl
theorem T210 : tySz Try.prog 210 = some 1 ∧ tyAgg Try.prog 210 = some false ∧ tyBytes Try.prog 210 = some 24 ∧ tyElem Try.prog 210 = some 4 := by decide +kernel
attribute [push_cast] T3 Z3 U3 T4 Z4 U4 T5 Z5 U5 T9 Z9 U9
attribute [push_cast] T22 T25 Z25 T32
attribute [push_cast] T70 Z70 T105 Z105 T134 Z134
attribute [push_cast] T149 T150 T151 T153 Z153 T156 Z156 T166 T168 Z168 T173 Z173 T179 Z179 T181
attribute [push_cast] T197 Z197 T199 Z199 T210
end Go.Proofs.Ythhgmnpodgmlkaa
