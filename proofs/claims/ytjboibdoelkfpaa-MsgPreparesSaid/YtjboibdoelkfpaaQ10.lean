/- Contracts of the Go functions that these laws reach: each call answers what the plain Lean function beside it says. Written by a program of this session (pp.py). -/
import Derived.Test.YtjboibdoelkfpaaQ0
import Derived.Test.YtjboibdoelkfpaaQ1
import Derived.Test.YtjboibdoelkfpaaQ2
import Derived.Test.YtjboibdoelkfpaaQ4
import Derived.Test.YtjboibdoelkfpaaQ6
import Derived.Test.YtjboibdoelkfpaaQ9
namespace Go.Proofs.Ytjboibdoelkfpaa.Q
open Go.RowKit Go.Proofs.YtjboibdoelkfpaaW.PrintWords Go.Proofs.YtjboibdoelkfpaaW.PrintLast Go.Proofs.YtjboibdoelkfpaaW.PrintMore
attribute [local go_sem] max2_int min2_int max_two min_two max_three min_three max_four min_four   -- for this text's walks alone
set_option linter.unusedVariables false
set_option linter.unusedSimpArgs false

attribute [local go_sem high] eqA29
/-! ### thresherlaw15_MsgBytes: function 3 -/
mutual
def thresherlaw15_MsgBytes.l0 : Nat → Int → List (S29) → ByteArray → Option (Bool)
  | 0, _, _, _ => none
  | k + 1, x3, x270000, x270001 => if x3 < (x270000.length : Int) then (thresherlaw15_MsgBytes.j1 k x3 (decide (x3 < 10)) x270000 x270001) else (thresherlaw15_MsgBytes.j1 k x3 false x270000 x270001)
def thresherlaw15_MsgBytes.j1 : Nat → Int → Bool → List (S29) → ByteArray → Option (Bool)
  | 0, _, _, _, _ => none
  | k + 1, x3, x20, x270000, x270001 => if x20 = true then (if 0 ≤ x3 then (if x3 < (x270000.length : Int) then ((thresherlaw15_one.f k ((rd_T29 x270000 x3).f0) ((rd_T29 x270000 x3).f1) ((rd_T29 x270000 x3).f2) ((rd_T29 x270000 x3).f3) ((rd_T29 x270000 x3).f4) ((rd_T29 x270000 x3).f5) ((rd_T29 x270000 x3).f6) ((rd_T29 x270000 x3).f7) ((rd_T29 x270000 x3).f8) ((rd_T29 x270000 x3).f9) ((rd_T29 x270000 x3).f10) x3).bind fun t272 => (if t272 = true then (thresherlaw15_MsgBytes.l0 k (wrap64 (x3 + 1)) x270000 x270001) else (some false))) else (none)) else (none)) else ((thresherref3_Frame.f k x270001).bind fun t273 => ((thresherref3_Frame.f k x270001).bind fun t274 => (if t274.size + 1 ≤ 9223372036854775807 then (thresherlaw15_MsgBytes.l1 k (([x270001, t273, t274 ++ (⟨#[120]⟩ : ByteArray)] : List ByteArray)) 0) else (none))))
def thresherlaw15_MsgBytes.l1 : Nat → List ByteArray → Int → Option (Bool)
  | 0, _, _ => none
  | k + 1, x4, x5 => if x5 < (x4.length : Int) then (if 0 ≤ x5 then ((msg_Take.f k (rdOf ByteArray.empty x4 x5)).bind fun bt280 => ((thresherref15_Take.f k (rdOf ByteArray.empty x4 x5)).bind fun bt294 => (if (!(bt280.1 == bt294.1) || (!(bt280.2.1 == bt294.2.1) || (!(bt280.2.2.1 == bt294.2.2.1) || (!(bt280.2.2.2.1 == bt294.2.2.2.1) || (!(bt280.2.2.2.2.1 == bt294.2.2.2.2.1) || (!(bt280.2.2.2.2.2.1 == bt294.2.2.2.2.2.1) || (!(bt280.2.2.2.2.2.2.1 == bt294.2.2.2.2.2.2.1) || (!(bt280.2.2.2.2.2.2.2.1 == bt294.2.2.2.2.2.2.2.1) || (!(bt280.2.2.2.2.2.2.2.2.1 == bt294.2.2.2.2.2.2.2.2.1) || (!(bt280.2.2.2.2.2.2.2.2.2.1 == bt294.2.2.2.2.2.2.2.2.2.1) || (!(bt280.2.2.2.2.2.2.2.2.2.2.1.toList == bt294.2.2.2.2.2.2.2.2.2.2.1.toList)))))))))))) = true then (some false) else ((thresherlaw15_num.f bt280.2.2.2.2.2.2.2.2.2.2.2).bind fun t307 => (if t307 = bt294.2.2.2.2.2.2.2.2.2.2.2 then (thresherlaw15_MsgBytes.l1 k x4 (wrap64 (x5 + 1))) else (some false)))))) else (none)) else ((thresherlaw15_wakes.f k).bind fun t278 => (some t278))
end
end Go.Proofs.Ytjboibdoelkfpaa.Q
