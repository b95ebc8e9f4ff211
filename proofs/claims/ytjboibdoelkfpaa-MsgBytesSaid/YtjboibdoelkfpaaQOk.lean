/- What the values of each type meet, and that whatever reads as data of the type is one of them. -/
import Derived.Test.YtjboibdoelkfpaaQ0
import Derived.Test.YtjboibdoelkfpaaOpens
namespace Go.Proofs.Ytjboibdoelkfpaa.QOk
open Go.RowKit Go.Proofs.YtjboibdoelkfpaaW.PrintWords Go.Proofs.Ytjboibdoelkfpaa.Q Go.Proofs.Ytjboibdoelkfpaa.Open
def okS29 (x : S29) : Prop := (-9223372036854775808 ≤ x.f0 ∧ x.f0 ≤ 9223372036854775807) ∧ (-9223372036854775808 ≤ x.f1 ∧ x.f1 ≤ 9223372036854775807) ∧ (-9223372036854775808 ≤ x.f2 ∧ x.f2 ≤ 9223372036854775807) ∧ (-9223372036854775808 ≤ x.f3 ∧ x.f3 ≤ 9223372036854775807) ∧ (-9223372036854775808 ≤ x.f4 ∧ x.f4 ≤ 9223372036854775807) ∧ (-9223372036854775808 ≤ x.f5 ∧ x.f5 ≤ 9223372036854775807) ∧ (-9223372036854775808 ≤ x.f6 ∧ x.f6 ≤ 9223372036854775807) ∧ (-9223372036854775808 ≤ x.f7 ∧ x.f7 ≤ 9223372036854775807) ∧ (0 ≤ x.f8 ∧ x.f8 ≤ 4294967295) ∧ (-9223372036854775808 ≤ x.f9 ∧ x.f9 ≤ 9223372036854775807) ∧ (x.f10.size ≤ 140737488351232)
theorem opens29 : Opens Try.prog 29 k29 okS29 := by
  refine opens_as (opens_iso (fun x : S29 => (x.f0, x.f1, x.f2, x.f3, x.f4, x.f5, x.f6, x.f7, x.f8, x.f9, x.f10)) (fun a => ⟨a.1, a.2.1, a.2.2.1, a.2.2.2.1, a.2.2.2.2.1, a.2.2.2.2.2.1, a.2.2.2.2.2.2.1, a.2.2.2.2.2.2.2.1, a.2.2.2.2.2.2.2.2.1, a.2.2.2.2.2.2.2.2.2.1, a.2.2.2.2.2.2.2.2.2.2⟩) (fun _ => rfl) (opens_struct Try.underlying29 (by kernel_rfl) (opensFs_cons rfl (by kernel_rfl) (opens_i64 Try.underlying3) (opensFs_cons rfl (by kernel_rfl) (opens_i64 Try.underlying3) (opensFs_cons rfl (by kernel_rfl) (opens_i64 Try.underlying3) (opensFs_cons rfl (by kernel_rfl) (opens_i64 Try.underlying3) (opensFs_cons rfl (by kernel_rfl) (opens_i64 Try.underlying3) (opensFs_cons rfl (by kernel_rfl) (opens_i64 Try.underlying3) (opensFs_cons rfl (by kernel_rfl) (opens_i64 Try.underlying3) (opensFs_cons rfl (by kernel_rfl) (opens_i64 Try.underlying3) (opensFs_cons rfl (by kernel_rfl) (opens_u32 Try.underlying27) (opensFs_cons rfl (by kernel_rfl) (opens_i64 Try.underlying3) (opensFs_last rfl (by kernel_rfl) (opens_string Try.underlying9)))))))))))))) ?_
  intro x h_
  exact h_
def okS24 (x : S24) : Prop := (x.f0.length * 96 ≤ 140737488351232 ∧ ∀ x_ ∈ x.f0, okS29 x_) ∧ (x.f1.size ≤ 140737488351232)
theorem opens24 : Opens Try.prog 24 k24 okS24 := by
  refine opens_as (opens_iso (fun x : S24 => (x.f0, x.f1)) (fun a => ⟨a.1, a.2⟩) (fun _ => rfl) (opens_struct Try.underlying24 (by kernel_rfl) (opensFs_cons rfl (by kernel_rfl) (opens_row (B := 96) Try.underlying22 opens29 (by kernel_rfl) (by kernel_rfl)) (opensFs_last rfl (by kernel_rfl) (opens_string Try.underlying9))))) ?_
  intro x h_
  exact h_
end Go.Proofs.Ytjboibdoelkfpaa.QOk
