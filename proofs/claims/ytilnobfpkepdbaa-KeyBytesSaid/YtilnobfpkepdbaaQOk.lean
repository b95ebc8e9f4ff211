/- What the values of each type meet, and that whatever reads as data of the type is one of them. -/
import Derived.Test.YtilnobfpkepdbaaQ0
import Derived.Test.YtilnobfpkepdbaaOpens
namespace Go.Proofs.Ytilnobfpkepdbaa.QOk
open Go.RowKit Go.Proofs.YtilnobfpkepdbaaW.PrintWords Go.Proofs.Ytilnobfpkepdbaa.Q Go.Proofs.Ytilnobfpkepdbaa.Open
def okS30 (x : S30) : Prop := (-9223372036854775808 ≤ x.f0 ∧ x.f0 ≤ 9223372036854775807) ∧ (x.f1.size ≤ 140737488351232)
theorem opens30 : Opens Try.prog 30 k30 okS30 := by
  refine opens_as (opens_iso (fun x : S30 => (x.f0, x.f1)) (fun a => ⟨a.1, a.2⟩) (fun _ => rfl) (opens_struct Try.underlying30 (by kernel_rfl) (opensFs_cons rfl (by kernel_rfl) (opens_i64 Try.underlying2) (opensFs_last rfl (by kernel_rfl) (opens_string Try.underlying9))))) ?_
  intro x h_
  exact h_
def okS24 (x : S24) : Prop := (x.f0.length * 24 ≤ 140737488351232 ∧ ∀ x_ ∈ x.f0, okS30 x_) ∧ (x.f1.size ≤ 140737488351232)
theorem opens24 : Opens Try.prog 24 k24 okS24 := by
  refine opens_as (opens_iso (fun x : S24 => (x.f0, x.f1)) (fun a => ⟨a.1, a.2⟩) (fun _ => rfl) (opens_struct Try.underlying24 (by kernel_rfl) (opensFs_cons rfl (by kernel_rfl) (opens_row (B := 24) Try.underlying22 opens30 (by kernel_rfl) (by kernel_rfl)) (opensFs_last rfl (by kernel_rfl) (opens_string Try.underlying9))))) ?_
  intro x h_
  exact h_
end Go.Proofs.Ytilnobfpkepdbaa.QOk
