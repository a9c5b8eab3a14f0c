/- Texts of this claim, put together by a small program of the session's own: PC2. -/
import Derived.Test.YtgmadofbelhmeaaH5
section
/- The codes' matrices looked through: 5 of 9, one half. -/
namespace Go.Proofs.Ytgmadofbelhmeaa.L
open Go.RowKit Go.Proofs.YtgmadofbelhmeaaW.PrintWords Go.Proofs.YtgmadofbelhmeaaW.PrintLast Go.Proofs.YtgmadofbelhmeaaW.PrintMore
set_option linter.unusedVariables false
set_option linter.unusedSimpArgs false

set_option maxRecDepth 100000
theorem chk54r : okRows 5 9 = true := by decide +kernel
theorem chk54a : (((subs 9 5 0).take 32).all (okIdx 5 9)) = true := by decide +kernel
theorem chk54b : ((((subs 9 5 0).drop 32).take 32).all (okIdx 5 9)) = true := by decide +kernel
end Go.Proofs.Ytgmadofbelhmeaa.L
end
