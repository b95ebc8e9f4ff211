/- EntKinds over its function: whatever is handed in, it tells true. -/
import Derived.Test.YtjnlmcpcdgfpkaaQ3
import Derived.Test.YtjnlmcpcdgfpkaaEntPure
import Derived.Test.YtjnlmcpcdgfpkaaQOk
set_option linter.unusedVariables false
namespace Go.Proofs.Ytjnlmcpcdgfpkaa.EntKindsPure
open Go.Proofs.YtjnlmcpcdgfpkaaW.PrintWords Go.Proofs.Ytjnlmcpcdgfpkaa.Bits7 Go.Proofs.Ytjnlmcpcdgfpkaa.Q Go.Proofs.Ytjnlmcpcdgfpkaa.QOk
theorem pure (x : S24) (hok : okS24 x) : ∃ k, thresherlaw16_EntKinds.f k x.f0 x.f1 = some true :=
  Ev.rounds EntPure.wakes_ev
end Go.Proofs.Ytjnlmcpcdgfpkaa.EntKindsPure
