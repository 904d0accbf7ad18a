/- More small facts about numbers in memory. -/
import Derived.Test.YtmecomgifmkkfaaMem
namespace Go.Proofs.Ytmecomgifmkkfaa
set_option linter.unusedVariables false
set_option linter.unusedSimpArgs false
open Go.RowKit

theorem NumAt.put_zero {w : World} {b n : Nat} (h : NumAt w b n) :
    NumAt ((((w.setCell ⟨b, 0, none⟩ (.int .u64 0)).setCell ⟨b, 1, none⟩ (.int .u64 0)).setCell ⟨b, 2, none⟩ (.int .u64 0)).setCell ⟨b, 3, none⟩ (.int .u64 0)) b 0 := h.put 0

end Go.Proofs.Ytmecomgifmkkfaa
