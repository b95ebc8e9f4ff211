/- What the values of each type meet, and that whatever reads as data of the type is one of them. -/
import Derived.Test.YtlilfbkgkobgmaaQ0
import Derived.Test.YtlilfbkgkobgmaaOpens
namespace Go.Proofs.Ytlilfbkgkobgmaa.QOk
open Go.RowKit Go.Proofs.YtlilfbkgkobgmaaW.PrintWords Go.Proofs.Ytlilfbkgkobgmaa.Q Go.Proofs.Ytlilfbkgkobgmaa.Open
def okS40 (x : S40) : Prop := (-9223372036854775808 ≤ x.f0 ∧ x.f0 ≤ 9223372036854775807) ∧ (-9223372036854775808 ≤ x.f1 ∧ x.f1 ≤ 9223372036854775807) ∧ (x.f2.size ≤ 140737488351232)
theorem opens40 : Opens Try.prog 40 k40 okS40 := by
  refine opens_as (opens_iso (fun x : S40 => (x.f0, x.f1, x.f2)) (fun a => ⟨a.1, a.2.1, a.2.2⟩) (fun _ => rfl) (opens_struct Try.underlying40 (by kernel_rfl) (opensFs_cons rfl (by kernel_rfl) (opens_i64 Try.underlying3) (opensFs_cons rfl (by kernel_rfl) (opens_i64 Try.underlying3) (opensFs_last rfl (by kernel_rfl) (opens_string Try.underlying9)))))) ?_
  intro x h_
  exact h_
def okS24 (x : S24) : Prop := (x.f0.size ≤ 140737488351232) ∧ (x.f1.length * 32 ≤ 140737488351232 ∧ ∀ x_ ∈ x.f1, okS40 x_)
theorem opens24 : Opens Try.prog 24 k24 okS24 := by
  refine opens_as (opens_iso (fun x : S24 => (x.f0, x.f1)) (fun a => ⟨a.1, a.2⟩) (fun _ => rfl) (opens_struct Try.underlying24 (by kernel_rfl) (opensFs_cons rfl (by kernel_rfl) (opens_string Try.underlying9) (opensFs_last rfl (by kernel_rfl) (opens_row (B := 32) Try.underlying22 opens40 (by kernel_rfl) (by kernel_rfl)))))) ?_
  intro x h_
  exact h_
end Go.Proofs.Ytlilfbkgkobgmaa.QOk
