-- CUT: of the printed text what this claim comes to
import Derived.Test.YtjboibdoelkfpaaWInv
import Derived.Test.YtjboibdoelkfpaaWFootNe
namespace Go.Proofs.YtjboibdoelkfpaaW.PrintWords
open Go.RowKit
end Go.Proofs.YtjboibdoelkfpaaW.PrintWords
namespace Go.Proofs.YtjboibdoelkfpaaW.PrintLast
section
variable {ops : Array Oper} {a : Act} {o og : Oper} {g : Nat} {t : Tmp} {u : Bool}
end
end Go.Proofs.YtjboibdoelkfpaaW.PrintLast
