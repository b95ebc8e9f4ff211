/- What the values of each type meet, and that whatever reads as data of the type is one of them. -/
import Derived.Test.YtjnlmcpcdgfpkaaQ0
import Derived.Test.YtjnlmcpcdgfpkaaOpens
namespace Go.Proofs.Ytjnlmcpcdgfpkaa.QOk
open Go.RowKit Go.Proofs.YtjnlmcpcdgfpkaaW.PrintWords Go.Proofs.Ytjnlmcpcdgfpkaa.Q Go.Proofs.Ytjnlmcpcdgfpkaa.Open
def okS26 (x : S26) : Prop := (-9223372036854775808 ≤ x.f0 ∧ x.f0 ≤ 9223372036854775807) ∧ (-9223372036854775808 ≤ x.f1 ∧ x.f1 ≤ 9223372036854775807) ∧ (-9223372036854775808 ≤ x.f2 ∧ x.f2 ≤ 9223372036854775807) ∧ (-9223372036854775808 ≤ x.f3 ∧ x.f3 ≤ 9223372036854775807) ∧ (x.f4.size ≤ 140737488351232)
theorem opens26 : Opens Try.prog 26 k26 okS26 := by
  refine opens_as (opens_iso (fun x : S26 => (x.f0, x.f1, x.f2, x.f3, x.f4)) (fun a => ⟨a.1, a.2.1, a.2.2.1, a.2.2.2.1, a.2.2.2.2⟩) (fun _ => rfl) (opens_struct Try.underlying26 (by kernel_rfl) (opensFs_cons rfl (by kernel_rfl) (opens_i64 Try.underlying3) (opensFs_cons rfl (by kernel_rfl) (opens_i64 Try.underlying3) (opensFs_cons rfl (by kernel_rfl) (opens_i64 Try.underlying3) (opensFs_cons rfl (by kernel_rfl) (opens_i64 Try.underlying3) (opensFs_last rfl (by kernel_rfl) (opens_string Try.underlying9)))))))) ?_
  intro x h_
  exact h_
def okS24 (x : S24) : Prop := (x.f0.length * 48 ≤ 140737488351232 ∧ ∀ x_ ∈ x.f0, okS26 x_) ∧ (x.f1.size ≤ 140737488351232)
theorem opens24 : Opens Try.prog 24 k24 okS24 := by
  refine opens_as (opens_iso (fun x : S24 => (x.f0, x.f1)) (fun a => ⟨a.1, a.2⟩) (fun _ => rfl) (opens_struct Try.underlying24 (by kernel_rfl) (opensFs_cons rfl (by kernel_rfl) (opens_row (B := 48) Try.underlying22 opens26 (by kernel_rfl) (by kernel_rfl)) (opensFs_last rfl (by kernel_rfl) (opens_string Try.underlying9))))) ?_
  intro x h_
  exact h_
end Go.Proofs.Ytjnlmcpcdgfpkaa.QOk
