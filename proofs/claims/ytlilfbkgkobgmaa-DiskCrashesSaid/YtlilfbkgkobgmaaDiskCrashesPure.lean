/- DiskCrashes over its printed functions: whatever script is handed in, it tells true. -/
import Derived.Test.YtlilfbkgkobgmaaQ5
import Derived.Test.YtlilfbkgkobgmaaDiskPure
namespace Go.Proofs.Ytlilfbkgkobgmaa.DiskCrashesPure
open Go.Proofs.YtlilfbkgkobgmaaW.PrintWords Go.Proofs.Ytlilfbkgkobgmaa.Bits7 Go.Proofs.Ytlilfbkgkobgmaa.Q Go.Proofs.Ytlilfbkgkobgmaa.QOk
theorem pure (x : S24) (hok : okS24 x) : ∃ k, thresherlaw17_DiskCrashes.f k x.f0 x.f1 = some true := by
  obtain ⟨h1, h2, h3⟩ := DiskPure.ok_parts x hok
  exact Ev.rounds (Ev.bind (DiskPure.only_ev x.f0 x.f1 h1 h2 h3 10 ⟨by decide, by decide⟩) (ev_some rfl))
end Go.Proofs.Ytlilfbkgkobgmaa.DiskCrashesPure
