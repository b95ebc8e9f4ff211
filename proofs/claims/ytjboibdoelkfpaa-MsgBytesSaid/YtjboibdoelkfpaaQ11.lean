/- Contracts of the Go functions that these laws reach: each call answers what the plain Lean function beside it says. Written by a program of this session (pp.py). -/
import Derived.Test.YtjboibdoelkfpaaQ0
import Derived.Test.YtjboibdoelkfpaaQ2
import Derived.Test.YtjboibdoelkfpaaQ9
namespace Go.Proofs.Ytjboibdoelkfpaa.Q
open Go.RowKit Go.Proofs.YtjboibdoelkfpaaW.PrintWords Go.Proofs.YtjboibdoelkfpaaW.PrintLast Go.Proofs.YtjboibdoelkfpaaW.PrintMore
attribute [local go_sem] max2_int min2_int max_two min_two max_three min_three max_four min_four   -- for this text's walks alone
set_option linter.unusedVariables false
set_option linter.unusedSimpArgs false

/-! ### thresherlaw15_kind: function 19 -/
/-! ### thresherlaw15_MsgRuns: function 4 -/
/-! ### thresherlaw15_MsgChunks: function 5 -/
/-! ### thresherlaw15_MsgAcks: function 6 -/
/-! ### thresherlaw15_MsgFails: function 7 -/
/-! ### thresherlaw15_MsgPrepares: function 8 -/
/-! ### thresherlaw15_MsgVotes: function 9 -/
/-! ### thresherlaw15_MsgDecides: function 10 -/
/-! ### thresherlaw15_MsgDones: function 11 -/
end Go.Proofs.Ytjboibdoelkfpaa.Q
