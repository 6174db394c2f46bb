/- What Plain tells is the same as itself. -/
import Derived.Test.YtgmdbpplfjkjmaaPlainLaw
namespace Go.Proofs.Ytgmdbpplfjkjmaa
open Go.RowKit
set_option linter.unusedVariables false
set_option linter.unusedSimpArgs false


theorem plain_same {t : Term} (h : okB (builtV t) = true) : sameT (plainT (builtV t) 0) (plainT (builtV t) 0) = true := by
  rw [plain_clean t 1 ⟨0, 0, 0⟩ 0 (Int.le_refl _) h (by omega)]
  exact same_clean t 1 ⟨0, 0, 0⟩ (Int.le_refl _) h
end Go.Proofs.Ytgmdbpplfjkjmaa
