/- Texts of this claim, put together by a small program of the session's own: PC1. -/
import Derived.Test.YtgmadofbelhmeaaH5
section
/- The codes' matrices looked through: all but 5 of 9. -/
namespace Go.Proofs.Ytgmadofbelhmeaa.L
open Go.RowKit Go.Proofs.YtgmadofbelhmeaaW.PrintWords Go.Proofs.YtgmadofbelhmeaaW.PrintLast Go.Proofs.YtgmadofbelhmeaaW.PrintMore
set_option linter.unusedVariables false
set_option linter.unusedSimpArgs false

set_option maxRecDepth 100000
theorem chk1 : ∀ d : Fin 5, chk 1 (1 + d.1) = true := by decide +kernel
theorem chk2 : ∀ d : Fin 5, chk 2 (2 + d.1) = true := by decide +kernel
theorem chk3 : ∀ d : Fin 5, chk 3 (3 + d.1) = true := by decide +kernel
theorem chk4 : ∀ d : Fin 5, chk 4 (4 + d.1) = true := by decide +kernel
theorem chk50 : chk 5 5 = true := by decide +kernel
theorem chk51 : chk 5 6 = true := by decide +kernel
theorem chk52 : chk 5 7 = true := by decide +kernel
theorem chk53 : chk 5 8 = true := by decide +kernel
end Go.Proofs.Ytgmadofbelhmeaa.L
end
