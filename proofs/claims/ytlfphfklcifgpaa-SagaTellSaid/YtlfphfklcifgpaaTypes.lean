/-
  What the program's types are: how many cells, their zero; conditions: none. (Printed by wip/mktypes.py.)
-/
import Derived.Test.YtlfphfklcifgpaaProg
import Derived.Test.YtlfphfklcifgpaaOwn
import Derived.KernelRfl
namespace Go.Proofs.Ytlfphfklcifgpaa
open Go.Own
instance : IsOne Try.prog 70 := ⟨by kernel_rfl⟩
instance : HasSize Try.prog 70 1 := ⟨by kernel_rfl⟩
instance : IsElem Try.prog 70 1 8 := ⟨by kernel_rfl, by decide⟩
instance : HasZero Try.prog 70 (.pointer none) := ⟨by kernel_rfl⟩
instance : IsAgg Try.prog 24 6 := ⟨by kernel_rfl⟩
instance : HasSize Try.prog 24 6 := ⟨by kernel_rfl⟩
instance : IsElem Try.prog 24 6 48 := ⟨by kernel_rfl, by decide⟩
instance : HasZero Try.prog 24 (.agg #[.int .i64 0, .int .i64 0, .int .i64 0, .int .i64 0, .int .i64 0, .int .i64 0]) := ⟨by kernel_rfl⟩
instance : IsAgg Try.prog 51 8 := ⟨by kernel_rfl⟩
instance : HasSize Try.prog 51 8 := ⟨by kernel_rfl⟩
instance : IsElem Try.prog 51 8 8 := ⟨by kernel_rfl, by decide⟩
instance : HasZero Try.prog 51 (.agg #[.bool false, .bool false, .bool false, .bool false, .bool false, .bool false, .bool false, .bool false]) := ⟨by kernel_rfl⟩
instance : IsOne Try.prog 56 := ⟨by kernel_rfl⟩
instance : HasSize Try.prog 56 1 := ⟨by kernel_rfl⟩
instance : IsElem Try.prog 56 1 24 := ⟨by kernel_rfl, by decide⟩
instance : IsSlice Try.prog 56 34 := ⟨by kernel_rfl⟩
instance : HasZero Try.prog 56 (.slice none 0 0) := ⟨by kernel_rfl⟩
instance : IsOne Try.prog 4 := ⟨by kernel_rfl⟩
instance : HasSize Try.prog 4 1 := ⟨by kernel_rfl⟩
instance : IsElem Try.prog 4 1 1 := ⟨by kernel_rfl, by decide⟩
instance : HasZero Try.prog 4 (.bool false) := ⟨by kernel_rfl⟩
instance : IsOne Try.prog 36 := ⟨by kernel_rfl⟩
instance : HasSize Try.prog 36 1 := ⟨by kernel_rfl⟩
instance : IsElem Try.prog 36 1 8 := ⟨by kernel_rfl, by decide⟩
instance : HasZero Try.prog 36 (.int .i64 0) := ⟨by kernel_rfl⟩
instance : IsAgg Try.prog 23 5 := ⟨by kernel_rfl⟩
instance : HasSize Try.prog 23 5 := ⟨by kernel_rfl⟩
instance : IsElem Try.prog 23 5 56 := ⟨by kernel_rfl, by decide⟩
instance : HasZero Try.prog 23 (.agg #[.int .i64 0, .string ⟨#[]⟩, .string ⟨#[]⟩, .int .i64 0, .int .i64 0]) := ⟨by kernel_rfl⟩
instance : IsAgg Try.prog 34 12 := ⟨by kernel_rfl⟩
instance : HasSize Try.prog 34 12 := ⟨by kernel_rfl⟩
instance : IsElem Try.prog 34 12 112 := ⟨by kernel_rfl, by decide⟩
instance : HasZero Try.prog 34 (.agg #[.int .i64 0, .string ⟨#[]⟩, .string ⟨#[]⟩, .int .i64 0, .int .i64 0, .int .i64 0, .int .i64 0, .int .i64 0, .int .i64 0, .int .i64 0, .int .i64 0, .bool false]) := ⟨by kernel_rfl⟩
instance : IsAgg Try.prog 26 12 := ⟨by kernel_rfl⟩
instance : HasSize Try.prog 26 12 := ⟨by kernel_rfl⟩
instance : IsElem Try.prog 26 12 112 := ⟨by kernel_rfl, by decide⟩
instance : HasZero Try.prog 26 (.agg #[.int .i64 0, .string ⟨#[]⟩, .string ⟨#[]⟩, .int .i64 0, .int .i64 0, .int .i64 0, .int .i64 0, .int .i64 0, .int .i64 0, .int .i64 0, .int .i64 0, .bool false]) := ⟨by kernel_rfl⟩
instance : IsOne Try.prog 3 := ⟨by kernel_rfl⟩
instance : HasSize Try.prog 3 1 := ⟨by kernel_rfl⟩
instance : IsElem Try.prog 3 1 8 := ⟨by kernel_rfl, by decide⟩
instance : HasZero Try.prog 3 (.int .i64 0) := ⟨by kernel_rfl⟩
instance : IsOne Try.prog 21 := ⟨by kernel_rfl⟩
instance : HasSize Try.prog 21 1 := ⟨by kernel_rfl⟩
instance : IsElem Try.prog 21 1 4 := ⟨by kernel_rfl, by decide⟩
instance : HasZero Try.prog 21 (.int .i32 0) := ⟨by kernel_rfl⟩
instance : IsOne Try.prog 2 := ⟨by kernel_rfl⟩
instance : HasSize Try.prog 2 1 := ⟨by kernel_rfl⟩
instance : IsElem Try.prog 2 1 8 := ⟨by kernel_rfl, by decide⟩
instance : HasZero Try.prog 2 (.int .i64 0) := ⟨by kernel_rfl⟩
instance : IsOne Try.prog 9 := ⟨by kernel_rfl⟩
instance : HasSize Try.prog 9 1 := ⟨by kernel_rfl⟩
instance : IsElem Try.prog 9 1 16 := ⟨by kernel_rfl, by decide⟩
instance : HasZero Try.prog 9 (.string ⟨#[]⟩) := ⟨by kernel_rfl⟩
instance : IsAgg Try.prog 22 5 := ⟨by kernel_rfl⟩
instance : HasSize Try.prog 22 5 := ⟨by kernel_rfl⟩
instance : IsElem Try.prog 22 5 56 := ⟨by kernel_rfl, by decide⟩
instance : HasZero Try.prog 22 (.agg #[.int .i64 0, .string ⟨#[]⟩, .string ⟨#[]⟩, .int .i64 0, .int .i64 0]) := ⟨by kernel_rfl⟩
instance : IsAgg Try.prog 25 12 := ⟨by kernel_rfl⟩
instance : HasSize Try.prog 25 12 := ⟨by kernel_rfl⟩
instance : IsElem Try.prog 25 12 112 := ⟨by kernel_rfl, by decide⟩
instance : HasZero Try.prog 25 (.agg #[.int .i64 0, .string ⟨#[]⟩, .string ⟨#[]⟩, .int .i64 0, .int .i64 0, .int .i64 0, .int .i64 0, .int .i64 0, .int .i64 0, .int .i64 0, .int .i64 0, .bool false]) := ⟨by kernel_rfl⟩
instance : IsAgg Try.prog 13 2 := ⟨by kernel_rfl⟩
instance : HasSize Try.prog 13 2 := ⟨by kernel_rfl⟩
instance : IsElem Try.prog 13 2 24 := ⟨by kernel_rfl, by decide⟩
instance : HasZero Try.prog 13 (.agg #[.string ⟨#[]⟩, .int .u64 0]) := ⟨by kernel_rfl⟩
instance : IsOne Try.prog 66 := ⟨by kernel_rfl⟩
instance : HasSize Try.prog 66 1 := ⟨by kernel_rfl⟩
instance : IsElem Try.prog 66 1 4 := ⟨by kernel_rfl, by decide⟩
instance : HasZero Try.prog 66 (.int .u32 0) := ⟨by kernel_rfl⟩
instance : IsOne Try.prog 5 := ⟨by kernel_rfl⟩
instance : HasSize Try.prog 5 1 := ⟨by kernel_rfl⟩
instance : IsElem Try.prog 5 1 1 := ⟨by kernel_rfl, by decide⟩
instance : HasZero Try.prog 5 (.int .u8 0) := ⟨by kernel_rfl⟩
instance : IsOne Try.prog 12 := ⟨by kernel_rfl⟩
instance : HasSize Try.prog 12 1 := ⟨by kernel_rfl⟩
instance : IsElem Try.prog 12 1 8 := ⟨by kernel_rfl, by decide⟩
instance : HasZero Try.prog 12 (.int .u64 0) := ⟨by kernel_rfl⟩
instance : IsOne Try.prog 75 := ⟨by kernel_rfl⟩
instance : HasSize Try.prog 75 1 := ⟨by kernel_rfl⟩
instance : IsElem Try.prog 75 1 8 := ⟨by kernel_rfl, by decide⟩
instance : HasZero Try.prog 75 (.pointer none) := ⟨by kernel_rfl⟩
end Go.Proofs.Ytlfphfklcifgpaa
