/- MsgPrepares over its printed functions: whatever messages are handed in, it tells true. -/
import Derived.Test.YtjboibdoelkfpaaQ11
import Derived.Test.YtjboibdoelkfpaaMsgKindPure
namespace Go.Proofs.Ytjboibdoelkfpaa.MsgPreparesPure
open Go.Proofs.YtjboibdoelkfpaaW.PrintWords Go.Proofs.Ytjboibdoelkfpaa.Bits7 Go.Proofs.Ytjboibdoelkfpaa.Q Go.Proofs.Ytjboibdoelkfpaa.QOk
theorem pure (x : S24) (hok : okS24 x) : ∃ k, thresherlaw15_MsgPrepares.f k x.f0 x.f1 = some true :=
  Ev.rounds (Ev.bind (MsgKindPure.kind_ev _ x hok) (ev_some rfl))
end Go.Proofs.Ytjboibdoelkfpaa.MsgPreparesPure
