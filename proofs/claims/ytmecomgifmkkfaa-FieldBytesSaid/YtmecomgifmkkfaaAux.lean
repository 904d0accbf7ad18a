/- Small facts for the statements' walks. -/
import Derived.Test.YtmecomgifmkkfaaEqs
import Derived.Test.YtmecomgifmkkfaaLimbB
namespace Go.Proofs.Ytmecomgifmkkfaa
set_option linter.unusedVariables false
set_option linter.unusedSimpArgs false

theorem cmpI_lt {a b : Nat} (h : a < b) : cmpI a b = -1 := by unfold cmpI; rw [if_pos h]
theorem cmpI_gt {a b : Nat} (h : b < a) : cmpI a b = 1 := by unfold cmpI; rw [if_neg (by omega), if_pos h]
theorem cmpI_eq (a : Nat) : cmpI a a = 0 := by unfold cmpI; rw [if_neg (by omega), if_neg (by omega)]
theorem cmpI_same {a b : Nat} (h : a = b) : cmpI a b = 0 := by rw [h]; exact cmpI_eq b
theorem eq_same {a : Nat} (w : World) : (Op.equalIn 10000 24 (.agg #[.int .u64 (dg a 0 : Nat), .int .u64 (dg a 1 : Nat), .int .u64 (dg a 2 : Nat), .int .u64 (dg a 3 : Nat)]) (.agg #[.int .u64 (dg a 0 : Nat), .int .u64 (dg a 1 : Nat), .int .u64 (dg a 2 : Nat), .int .u64 (dg a 3 : Nat)])).run Try.prog w = .ok true w := by
  rw [eq_digits]; simp
theorem mul_hi {a b : Nat} (ha : a < W256) (hb : b < W256) : a * b / W256 < W256 := by
  refine Nat.div_lt_of_lt_mul ?_
  exact Nat.mul_lt_mul'' ha hb
end Go.Proofs.Ytmecomgifmkkfaa
