/- EntKnows over its printed functions: whatever entries are handed in, it tells true. -/
import Derived.Test.YtjnlmcpcdgfpkaaQ13
import Derived.Test.YtjnlmcpcdgfpkaaEntKindPure
namespace Go.Proofs.Ytjnlmcpcdgfpkaa.EntKnowsPure
open Go.Proofs.YtjnlmcpcdgfpkaaW.PrintWords Go.Proofs.Ytjnlmcpcdgfpkaa.Bits7 Go.Proofs.Ytjnlmcpcdgfpkaa.Q Go.Proofs.Ytjnlmcpcdgfpkaa.QOk
theorem pure (x : S24) (hok : okS24 x) : ∃ k, thresherlaw16_EntKnows.f k x.f0 x.f1 = some true :=
  Ev.rounds (Ev.bind (EntKindPure.kind_ev _ x hok) (ev_some rfl))
end Go.Proofs.Ytjnlmcpcdgfpkaa.EntKnowsPure
