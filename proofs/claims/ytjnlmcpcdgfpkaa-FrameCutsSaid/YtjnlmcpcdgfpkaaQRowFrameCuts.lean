/- The law FrameCuts holds for every input: it returns true, and its argument reads as it read before. No condition. -/
import Derived.Test.YtjnlmcpcdgfpkaaRows
import Derived.Test.YtjnlmcpcdgfpkaaQ7
import Derived.Test.YtjnlmcpcdgfpkaaQOk
import Derived.Test.YtjnlmcpcdgfpkaaFrameCutsPure
import Derived.WalkKit
import Derived.ProofKit
import Derived.OpenShut
import Derived.ShutString
import Derived.ChangeOld
import Derived.Below
import Derived.SizedLaws
namespace Go.Proofs.Ytjnlmcpcdgfpkaa.frameCuts
open Go.ChangeShapes Go.WideShapes Go.RowKit Go.Proofs.YtjnlmcpcdgfpkaaW.PrintWords Go.Proofs.Ytjnlmcpcdgfpkaa.Q Go.Proofs.Ytjnlmcpcdgfpkaa.Open Go.Proofs.Ytjnlmcpcdgfpkaa.QOk
set_option linter.unusedVariables false
theorem own : ownKnob Try.prog.godebug = none := by kernel_rfl
theorem laidOut : laidOutB Try.prog = true := by kernel_rfl
theorem opensArg : Opens Try.prog 32 (Kd.slice 9 Kd.string) (fun x => x.length * 16 ≤ 140737488351232 ∧ ∀ x_ ∈ x, x_.size ≤ 140737488351232) := (opens_row (B := 16) Try.underlying32 (opens_string Try.underlying9) (by kernel_rfl) (by kernel_rfl))
set_option maxRecDepth 100000 in
theorem lifted (os : Os) (started : os.Started) (H : Type) (enc : TypeId × Value → H) :
    ReturnsInHanded {} Try.checked os 5 .any (Rows.frameCutsSpec.pre6 enc Try.prog Try.f5 Rows.frameCutsRow.domain false) (Rows.frameCutsSpec.post enc Try.prog Try.f5 false true false false) := by
  refine returnsInHanded_of_change_sized (C := Try.checked) own started (by kernel_rfl) Try.func5
    (ChangeSpec.witness6 (enc := enc) (C := Try.checked) false ⟨#[], #[.slice none 0 0], []⟩ 8 (by kernel_rfl) (by kernel_rfl) (by kernel_rfl) (by kernel_rfl)) ?_
  intro W base args ds gs before hval0 hW hcnd hsz0 _
  have hsz : (DataW.weightsEach Try.prog (Try.f5.params.toList ++ Rows.frameCutsSpec.plain.varTypes Try.prog) (ds ++ gs)).all (· ≤ reachBytes) = true := hsz0
  have hval : ∀ (j : Nat) t v, Try.f5.params[j]? = some t → args[j]? = some v → Value.okWide Try.prog W .any base t v := hval0
  have hW' := hW
  obtain ⟨p, q, hA0, hV, rfl, hfz, hnd⟩ := hW
  have hA : DataW.TrodAll enc Try.prog W 0 (fun _ => true) true Try.f5.params.toList args.toList ds p := hA0
  rw [Try.params5] at hA hval hsz
  obtain ⟨v0, vs0, d0, ds0, p0, q0, hargs, rfl, rfl, h0, r0⟩ := trodAll_cons hA
  obtain ⟨rfl, rfl, rfl⟩ := trodAll_nil r0
  obtain rfl : args = #[v0] := by cases args; simp_all
  obtain ⟨rfl, rfl⟩ := trodVars_none hV
  have k0 := h0
  have lt0 : ∀ x ∈ p0, x.block < W.heap.size := by obtain ⟨m, hm⟩ := k0; exact DataW.trod_lt m _ _ _ hm
  obtain ⟨fuel, hf⟩ := h0
  obtain ⟨x, hK, hok⟩ := opensArg enc W 0 _ _ fuel _ _ hf (fun m hm => by simpa using List.all_eq_true.1 hsz _ (DataW.weights_mem_each (j := 0) (t := 32) (d := d0) rfl rfl m hm))
  obtain ⟨a0, len0, cap0, rfl⟩ := okWide_slice Try.underlying32 (hval 0 32 v0 rfl rfl)
  obtain ⟨A0, c0, hv, hl0, hC0⟩ := hK
  simp only [Value.cells, List.cons.injEq, and_true] at hv
  injection hv with e1 e2 e3
  have f1 := e1.symm
  have f3 := e3.symm
  subst f1 e2 f3
  clear hA0 hval0 hsz0 hsz hval
  obtain ⟨k, hp⟩ := FrameCutsPure.pure x hok
  refine (thresherlaw5_FrameCuts.calls k A0 c0 x true W hC0 hl0 hp).mono fun e W' h_ => ?_
  obtain ⟨he, hd⟩ := h_
  have bel : Below W.heap.size W W' := hd
  subst he
  exact ⟨_, rfl, _, _, _, [], _, [], hW', trodAll_mk1 (shut_bool Try.underlying4 _), (trodAll_cons_mk (Below.trod laidOut (by kernel_rfl) (of_decide_eq_true (by kernel_rfl)) k0 bel lt0) trodAll_mk0), rfl, bel.frame _, fun h => by cases h⟩
theorem over : Rows.frameCutsRow.holds Try.pinned (OpenSpec.ofChange Rows.frameCutsSpec) :=
  OpenClaim.holds_of_wide 5 Try.f5 rfl rfl rfl rfl rfl rfl rfl ⟨rfl, rfl, rfl, rfl, rfl⟩ rfl rfl rfl rfl rfl (by kernel_rfl) Try.func5 (by kernel_rfl)
    (of_decide_eq_true (by kernel_rfl)) (by unfold Func.isWrapper; first | (rw [if_pos (by decide +kernel)]; kernel_rfl) | (rw [if_neg (by decide +kernel)]; exact ⟨rfl, rfl⟩))
    (fun os started H enc _ => lifted os started H enc)
theorem proved : Rows.FrameCutsSaid := over
end Go.Proofs.Ytjnlmcpcdgfpkaa.frameCuts
namespace Go.Proofs.Ytjnlmcpcdgfpkaa
theorem frameCuts_holds : Rows.FrameCutsSaid := frameCuts.proved
#print axioms frameCuts_holds
end Go.Proofs.Ytjnlmcpcdgfpkaa
