/- Nine numbers are themselves. -/
import Derived.Test.YtpcbdjfonmohaaaLazyObj
namespace Go.Proofs.Ytpcbdjfonmohaaa
open Go.RowKit
set_option linter.unusedVariables false
set_option linter.unusedSimpArgs false
def nineL (a b : Int) : Array Value := #[.int .i64 0, .int .i64 0, .int .i64 0, .int .i64 0, .int .i64 0, .int .i64 0, .int .i64 0, .int .i64 a, .int .i64 b]
theorem nine_a0 (W : World) : (Op.equalIn 10000 82 (.agg (nineL ((0 : Nat) : Int) ((0 : Nat) : Int))) (.agg (nineL ((0 : Nat) : Int) ((0 : Nat) : Int)))).run Try.prog W = .ok true W := by kernel_rfl
theorem nine_b0 (W : World) : (Op.equalIn 10000 82 (.agg (nineL ((0 : Nat) : Int) 1)) (.agg (nineL ((0 : Nat) : Int) 1))).run Try.prog W = .ok true W := by kernel_rfl
theorem nine_a1 (W : World) : (Op.equalIn 10000 82 (.agg (nineL ((1 : Nat) : Int) ((1 : Nat) : Int))) (.agg (nineL ((1 : Nat) : Int) ((1 : Nat) : Int)))).run Try.prog W = .ok true W := by kernel_rfl
theorem nine_b1 (W : World) : (Op.equalIn 10000 82 (.agg (nineL ((1 : Nat) : Int) 1)) (.agg (nineL ((1 : Nat) : Int) 1))).run Try.prog W = .ok true W := by kernel_rfl
theorem nine_a2 (W : World) : (Op.equalIn 10000 82 (.agg (nineL ((2 : Nat) : Int) ((2 : Nat) : Int))) (.agg (nineL ((2 : Nat) : Int) ((2 : Nat) : Int)))).run Try.prog W = .ok true W := by kernel_rfl
theorem nine_b2 (W : World) : (Op.equalIn 10000 82 (.agg (nineL ((2 : Nat) : Int) 1)) (.agg (nineL ((2 : Nat) : Int) 1))).run Try.prog W = .ok true W := by kernel_rfl
theorem nine_a3 (W : World) : (Op.equalIn 10000 82 (.agg (nineL ((3 : Nat) : Int) ((3 : Nat) : Int))) (.agg (nineL ((3 : Nat) : Int) ((3 : Nat) : Int)))).run Try.prog W = .ok true W := by kernel_rfl
theorem nine_b3 (W : World) : (Op.equalIn 10000 82 (.agg (nineL ((3 : Nat) : Int) 1)) (.agg (nineL ((3 : Nat) : Int) 1))).run Try.prog W = .ok true W := by kernel_rfl
theorem nine_a4 (W : World) : (Op.equalIn 10000 82 (.agg (nineL ((4 : Nat) : Int) ((4 : Nat) : Int))) (.agg (nineL ((4 : Nat) : Int) ((4 : Nat) : Int)))).run Try.prog W = .ok true W := by kernel_rfl
theorem nine_b4 (W : World) : (Op.equalIn 10000 82 (.agg (nineL ((4 : Nat) : Int) 1)) (.agg (nineL ((4 : Nat) : Int) 1))).run Try.prog W = .ok true W := by kernel_rfl
theorem nine_a5 (W : World) : (Op.equalIn 10000 82 (.agg (nineL ((5 : Nat) : Int) ((5 : Nat) : Int))) (.agg (nineL ((5 : Nat) : Int) ((5 : Nat) : Int)))).run Try.prog W = .ok true W := by kernel_rfl
theorem nine_b5 (W : World) : (Op.equalIn 10000 82 (.agg (nineL ((5 : Nat) : Int) 1)) (.agg (nineL ((5 : Nat) : Int) 1))).run Try.prog W = .ok true W := by kernel_rfl
theorem nine_a6 (W : World) : (Op.equalIn 10000 82 (.agg (nineL ((6 : Nat) : Int) ((6 : Nat) : Int))) (.agg (nineL ((6 : Nat) : Int) ((6 : Nat) : Int)))).run Try.prog W = .ok true W := by kernel_rfl
theorem nine_b6 (W : World) : (Op.equalIn 10000 82 (.agg (nineL ((6 : Nat) : Int) 1)) (.agg (nineL ((6 : Nat) : Int) 1))).run Try.prog W = .ok true W := by kernel_rfl
theorem nine_a7 (W : World) : (Op.equalIn 10000 82 (.agg (nineL ((7 : Nat) : Int) ((7 : Nat) : Int))) (.agg (nineL ((7 : Nat) : Int) ((7 : Nat) : Int)))).run Try.prog W = .ok true W := by kernel_rfl
theorem nine_b7 (W : World) : (Op.equalIn 10000 82 (.agg (nineL ((7 : Nat) : Int) 1)) (.agg (nineL ((7 : Nat) : Int) 1))).run Try.prog W = .ok true W := by kernel_rfl
theorem nine_a8 (W : World) : (Op.equalIn 10000 82 (.agg (nineL ((8 : Nat) : Int) ((8 : Nat) : Int))) (.agg (nineL ((8 : Nat) : Int) ((8 : Nat) : Int)))).run Try.prog W = .ok true W := by kernel_rfl
theorem nine_b8 (W : World) : (Op.equalIn 10000 82 (.agg (nineL ((8 : Nat) : Int) 1)) (.agg (nineL ((8 : Nat) : Int) 1))).run Try.prog W = .ok true W := by kernel_rfl
theorem nine_a9 (W : World) : (Op.equalIn 10000 82 (.agg (nineL ((9 : Nat) : Int) ((9 : Nat) : Int))) (.agg (nineL ((9 : Nat) : Int) ((9 : Nat) : Int)))).run Try.prog W = .ok true W := by kernel_rfl
theorem nine_b9 (W : World) : (Op.equalIn 10000 82 (.agg (nineL ((9 : Nat) : Int) 1)) (.agg (nineL ((9 : Nat) : Int) 1))).run Try.prog W = .ok true W := by kernel_rfl
theorem nine_a10 (W : World) : (Op.equalIn 10000 82 (.agg (nineL ((10 : Nat) : Int) ((10 : Nat) : Int))) (.agg (nineL ((10 : Nat) : Int) ((10 : Nat) : Int)))).run Try.prog W = .ok true W := by kernel_rfl
theorem nine_b10 (W : World) : (Op.equalIn 10000 82 (.agg (nineL ((10 : Nat) : Int) 1)) (.agg (nineL ((10 : Nat) : Int) 1))).run Try.prog W = .ok true W := by kernel_rfl
theorem nine_a11 (W : World) : (Op.equalIn 10000 82 (.agg (nineL ((11 : Nat) : Int) ((11 : Nat) : Int))) (.agg (nineL ((11 : Nat) : Int) ((11 : Nat) : Int)))).run Try.prog W = .ok true W := by kernel_rfl
theorem nine_b11 (W : World) : (Op.equalIn 10000 82 (.agg (nineL ((11 : Nat) : Int) 1)) (.agg (nineL ((11 : Nat) : Int) 1))).run Try.prog W = .ok true W := by kernel_rfl
theorem nine_a12 (W : World) : (Op.equalIn 10000 82 (.agg (nineL ((12 : Nat) : Int) ((12 : Nat) : Int))) (.agg (nineL ((12 : Nat) : Int) ((12 : Nat) : Int)))).run Try.prog W = .ok true W := by kernel_rfl
theorem nine_b12 (W : World) : (Op.equalIn 10000 82 (.agg (nineL ((12 : Nat) : Int) 1)) (.agg (nineL ((12 : Nat) : Int) 1))).run Try.prog W = .ok true W := by kernel_rfl
theorem nine_a13 (W : World) : (Op.equalIn 10000 82 (.agg (nineL ((13 : Nat) : Int) ((13 : Nat) : Int))) (.agg (nineL ((13 : Nat) : Int) ((13 : Nat) : Int)))).run Try.prog W = .ok true W := by kernel_rfl
theorem nine_b13 (W : World) : (Op.equalIn 10000 82 (.agg (nineL ((13 : Nat) : Int) 1)) (.agg (nineL ((13 : Nat) : Int) 1))).run Try.prog W = .ok true W := by kernel_rfl
theorem nine_a14 (W : World) : (Op.equalIn 10000 82 (.agg (nineL ((14 : Nat) : Int) ((14 : Nat) : Int))) (.agg (nineL ((14 : Nat) : Int) ((14 : Nat) : Int)))).run Try.prog W = .ok true W := by kernel_rfl
theorem nine_b14 (W : World) : (Op.equalIn 10000 82 (.agg (nineL ((14 : Nat) : Int) 1)) (.agg (nineL ((14 : Nat) : Int) 1))).run Try.prog W = .ok true W := by kernel_rfl
theorem nine_a15 (W : World) : (Op.equalIn 10000 82 (.agg (nineL ((15 : Nat) : Int) ((15 : Nat) : Int))) (.agg (nineL ((15 : Nat) : Int) ((15 : Nat) : Int)))).run Try.prog W = .ok true W := by kernel_rfl
theorem nine_b15 (W : World) : (Op.equalIn 10000 82 (.agg (nineL ((15 : Nat) : Int) 1)) (.agg (nineL ((15 : Nat) : Int) 1))).run Try.prog W = .ok true W := by kernel_rfl
theorem nine_a16 (W : World) : (Op.equalIn 10000 82 (.agg (nineL ((16 : Nat) : Int) ((16 : Nat) : Int))) (.agg (nineL ((16 : Nat) : Int) ((16 : Nat) : Int)))).run Try.prog W = .ok true W := by kernel_rfl
theorem nine_b16 (W : World) : (Op.equalIn 10000 82 (.agg (nineL ((16 : Nat) : Int) 1)) (.agg (nineL ((16 : Nat) : Int) 1))).run Try.prog W = .ok true W := by kernel_rfl
theorem nine_a17 (W : World) : (Op.equalIn 10000 82 (.agg (nineL ((17 : Nat) : Int) ((17 : Nat) : Int))) (.agg (nineL ((17 : Nat) : Int) ((17 : Nat) : Int)))).run Try.prog W = .ok true W := by kernel_rfl
theorem nine_b17 (W : World) : (Op.equalIn 10000 82 (.agg (nineL ((17 : Nat) : Int) 1)) (.agg (nineL ((17 : Nat) : Int) 1))).run Try.prog W = .ok true W := by kernel_rfl
theorem nine_a18 (W : World) : (Op.equalIn 10000 82 (.agg (nineL ((18 : Nat) : Int) ((18 : Nat) : Int))) (.agg (nineL ((18 : Nat) : Int) ((18 : Nat) : Int)))).run Try.prog W = .ok true W := by kernel_rfl
theorem nine_b18 (W : World) : (Op.equalIn 10000 82 (.agg (nineL ((18 : Nat) : Int) 1)) (.agg (nineL ((18 : Nat) : Int) 1))).run Try.prog W = .ok true W := by kernel_rfl
theorem nine_a19 (W : World) : (Op.equalIn 10000 82 (.agg (nineL ((19 : Nat) : Int) ((19 : Nat) : Int))) (.agg (nineL ((19 : Nat) : Int) ((19 : Nat) : Int)))).run Try.prog W = .ok true W := by kernel_rfl
theorem nine_b19 (W : World) : (Op.equalIn 10000 82 (.agg (nineL ((19 : Nat) : Int) 1)) (.agg (nineL ((19 : Nat) : Int) 1))).run Try.prog W = .ok true W := by kernel_rfl
theorem nine_a (j : Nat) (hj : j ≤ 19) (W : World) : (Op.equalIn 10000 82 (.agg (nineL (j : Int) (j : Int))) (.agg (nineL (j : Int) (j : Int)))).run Try.prog W = .ok true W := by
  obtain rfl | rfl | rfl | rfl | rfl | rfl | rfl | rfl | rfl | rfl | rfl | rfl | rfl | rfl | rfl | rfl | rfl | rfl | rfl | rfl : j = 0 ∨ j = 1 ∨ j = 2 ∨ j = 3 ∨ j = 4 ∨ j = 5 ∨ j = 6 ∨ j = 7 ∨ j = 8 ∨ j = 9 ∨ j = 10 ∨ j = 11 ∨ j = 12 ∨ j = 13 ∨ j = 14 ∨ j = 15 ∨ j = 16 ∨ j = 17 ∨ j = 18 ∨ j = 19 := by omega
  · exact nine_a0 W
  · exact nine_a1 W
  · exact nine_a2 W
  · exact nine_a3 W
  · exact nine_a4 W
  · exact nine_a5 W
  · exact nine_a6 W
  · exact nine_a7 W
  · exact nine_a8 W
  · exact nine_a9 W
  · exact nine_a10 W
  · exact nine_a11 W
  · exact nine_a12 W
  · exact nine_a13 W
  · exact nine_a14 W
  · exact nine_a15 W
  · exact nine_a16 W
  · exact nine_a17 W
  · exact nine_a18 W
  · exact nine_a19 W
theorem nine_b (j : Nat) (hj : j ≤ 19) (W : World) : (Op.equalIn 10000 82 (.agg (nineL (j : Int) 1)) (.agg (nineL (j : Int) 1))).run Try.prog W = .ok true W := by
  obtain rfl | rfl | rfl | rfl | rfl | rfl | rfl | rfl | rfl | rfl | rfl | rfl | rfl | rfl | rfl | rfl | rfl | rfl | rfl | rfl : j = 0 ∨ j = 1 ∨ j = 2 ∨ j = 3 ∨ j = 4 ∨ j = 5 ∨ j = 6 ∨ j = 7 ∨ j = 8 ∨ j = 9 ∨ j = 10 ∨ j = 11 ∨ j = 12 ∨ j = 13 ∨ j = 14 ∨ j = 15 ∨ j = 16 ∨ j = 17 ∨ j = 18 ∨ j = 19 := by omega
  · exact nine_b0 W
  · exact nine_b1 W
  · exact nine_b2 W
  · exact nine_b3 W
  · exact nine_b4 W
  · exact nine_b5 W
  · exact nine_b6 W
  · exact nine_b7 W
  · exact nine_b8 W
  · exact nine_b9 W
  · exact nine_b10 W
  · exact nine_b11 W
  · exact nine_b12 W
  · exact nine_b13 W
  · exact nine_b14 W
  · exact nine_b15 W
  · exact nine_b16 W
  · exact nine_b17 W
  · exact nine_b18 W
  · exact nine_b19 W
end Go.Proofs.Ytpcbdjfonmohaaa
