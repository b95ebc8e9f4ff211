/- DiskSafe over its function: it tells true. -/
import Derived.Test.YtlilfbkgkobgmaaQ2
import Derived.Test.YtlilfbkgkobgmaaQOk
set_option linter.unusedVariables false
namespace Go.Proofs.Ytlilfbkgkobgmaa.DiskSafePure
open Go.Proofs.YtlilfbkgkobgmaaW.PrintWords Go.Proofs.Ytlilfbkgkobgmaa.Q Go.Proofs.Ytlilfbkgkobgmaa.QOk
theorem pure (x : S24) (hok : okS24 x) : thresherlaw17_DiskSafe.f x.f0 x.f1 = some true := rfl
end Go.Proofs.Ytlilfbkgkobgmaa.DiskSafePure
