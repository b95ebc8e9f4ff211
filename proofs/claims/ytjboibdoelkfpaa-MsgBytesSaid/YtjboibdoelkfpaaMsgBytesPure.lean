/- MsgBytes over its printed functions: whatever messages are handed in, it tells true. -/
import Derived.Test.YtjboibdoelkfpaaQ10
import Derived.Test.YtjboibdoelkfpaaMsgKindPure
namespace Go.Proofs.Ytjboibdoelkfpaa.MsgBytesPure
open Go.Proofs.YtjboibdoelkfpaaW.PrintWords Go.Proofs.Ytjboibdoelkfpaa.Bits7 Go.Proofs.Ytjboibdoelkfpaa.Q Go.Proofs.Ytjboibdoelkfpaa.QOk
theorem pure (x : S24) (hok : okS24 x) : ∃ k, thresherlaw15_MsgBytes.f k x.f0 x.f1 = some true :=
  Ev.rounds (MsgKindPure.bytes_ev x hok)
end Go.Proofs.Ytjboibdoelkfpaa.MsgBytesPure
