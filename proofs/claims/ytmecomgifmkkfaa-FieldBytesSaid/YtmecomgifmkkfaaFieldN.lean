/- Which modulus: the parity of a whole number, as the statements work it out. -/
import Derived.Test.YtmecomgifmkkfaaFieldM
namespace Go.Proofs.Ytmecomgifmkkfaa
set_option linter.unusedVariables false
set_option linter.unusedSimpArgs false
/-- int(uint(which) % 2). -/
def parI (which : Int) : Int := IntKind.i64.wrap ((IntKind.u64.wrap which).tmod 2)
theorem parI_ok (which : Int) : okW (parI which) := by
  unfold parI okW
  rw [IntKind.wrap_u64, Int.tmod_eq_emod_of_nonneg (by omega), IntKind.wrap_i64]
  omega
end Go.Proofs.Ytmecomgifmkkfaa
