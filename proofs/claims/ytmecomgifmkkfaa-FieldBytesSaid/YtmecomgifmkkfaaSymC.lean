/- The calculus of walks: a few whole-number facts more. -/
import Derived.Test.YtmecomgifmkkfaaSymB
namespace Go.Proofs.Ytmecomgifmkkfaa
set_option linter.unusedVariables false
set_option linter.unusedSimpArgs false
open Go.RowKit

theorem iop_rem2 (n : Nat) : iop .rem .u64 ((dg n 0 : Nat) : Int) 2 = some (.int .u64 ((n % 2 : Nat) : Int)) := by
  have h : ((dg n 0 : Nat) : Int).tmod 2 = ((n % 2 : Nat) : Int) := by
    rw [Int.tmod_eq_emod_of_nonneg (by omega), dg0]
    omega
  simp only [iop]
  rw [if_neg (by decide), h]
end Go.Proofs.Ytmecomgifmkkfaa
