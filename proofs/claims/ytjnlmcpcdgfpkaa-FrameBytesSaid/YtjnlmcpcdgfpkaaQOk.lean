/- What the values of each type meet, and that whatever reads as data of the type is one of them. -/
import Derived.Test.YtjnlmcpcdgfpkaaQ0
import Derived.Test.YtjnlmcpcdgfpkaaOpens
namespace Go.Proofs.Ytjnlmcpcdgfpkaa.QOk
open Go.RowKit Go.Proofs.YtjnlmcpcdgfpkaaW.PrintWords Go.Proofs.Ytjnlmcpcdgfpkaa.Q Go.Proofs.Ytjnlmcpcdgfpkaa.Open
end Go.Proofs.Ytjnlmcpcdgfpkaa.QOk
