/- The law MsgBytes holds for every input: it returns true, and its argument reads as it read before. No condition. -/
import Derived.Test.YtjboibdoelkfpaaRows
import Derived.Test.YtjboibdoelkfpaaQ10
import Derived.Test.YtjboibdoelkfpaaQOk
import Derived.Test.YtjboibdoelkfpaaMsgBytesPure
import Derived.WalkKit
import Derived.ProofKit
import Derived.OpenShut
import Derived.ShutString
import Derived.ChangeOld
import Derived.Below
import Derived.SizedLaws
namespace Go.Proofs.Ytjboibdoelkfpaa.msgBytes
open Go.ChangeShapes Go.WideShapes Go.RowKit Go.Proofs.YtjboibdoelkfpaaW.PrintWords Go.Proofs.Ytjboibdoelkfpaa.Q Go.Proofs.Ytjboibdoelkfpaa.Open Go.Proofs.Ytjboibdoelkfpaa.QOk
set_option linter.unusedVariables false
theorem own : ownKnob Try.prog.godebug = none := by kernel_rfl
theorem laidOut : laidOutB Try.prog = true := by kernel_rfl
theorem opensArg : Opens Try.prog 24 k24 (fun x => okS24 x) := opens24
set_option maxRecDepth 100000 in
theorem lifted (os : Os) (started : os.Started) (H : Type) (enc : TypeId × Value → H) :
    ReturnsInHanded {} Try.checked os 3 .any (Rows.msgBytesSpec.pre6 enc Try.prog Try.f3 Rows.msgBytesRow.domain false) (Rows.msgBytesSpec.post enc Try.prog Try.f3 false true false false) := by
  refine returnsInHanded_of_change_sized (C := Try.checked) own started (by kernel_rfl) Try.func3
    (ChangeSpec.witness6 (enc := enc) (C := Try.checked) false ⟨#[], #[.agg #[.slice none 0 0, .string ByteArray.empty]], []⟩ 8 (by kernel_rfl) (by kernel_rfl) (by kernel_rfl) (by kernel_rfl)) ?_
  intro W base args ds gs before hval0 hW hcnd hsz0 _
  have hsz : (DataW.weightsEach Try.prog (Try.f3.params.toList ++ Rows.msgBytesSpec.plain.varTypes Try.prog) (ds ++ gs)).all (· ≤ reachBytes) = true := hsz0
  have hval : ∀ (j : Nat) t v, Try.f3.params[j]? = some t → args[j]? = some v → Value.okWide Try.prog W .any base t v := hval0
  have hW' := hW
  obtain ⟨p, q, hA0, hV, rfl, hfz, hnd⟩ := hW
  have hA : DataW.TrodAll enc Try.prog W 0 (fun _ => true) true Try.f3.params.toList args.toList ds p := hA0
  rw [Try.params3] at hA hval hsz
  obtain ⟨v0, vs0, d0, ds0, p0, q0, hargs, rfl, rfl, h0, r0⟩ := trodAll_cons hA
  obtain ⟨rfl, rfl, rfl⟩ := trodAll_nil r0
  obtain rfl : args = #[v0] := by cases args; simp_all
  obtain ⟨rfl, rfl⟩ := trodVars_none hV
  have k0 := h0
  have lt0 : ∀ x ∈ p0, x.block < W.heap.size := by obtain ⟨m, hm⟩ := k0; exact DataW.trod_lt m _ _ _ hm
  obtain ⟨fuel, hf⟩ := h0
  obtain ⟨x, hK, hok⟩ := opensArg enc W 0 _ _ fuel _ _ hf (fun m hm => by simpa using List.all_eq_true.1 hsz _ (DataW.weights_mem_each (j := 0) (t := 24) (d := d0) rfl rfl m hm))
  obtain ⟨cs, rfl, _⟩ := okWide_struct Try.underlying24 (hval 0 24 v0 rfl rfl)
  have hK2 : (k24).K W x cs.toList := hK
  obtain ⟨A0, c0, hv, hl0, hC0⟩ : ∃ A0 c0, cs.toList = [.slice A0 (x.f0).length c0, .string (x.f1)] ∧ (x.f0).length ≤ c0 ∧ Kd.C k29 W A0 (x.f0).length (x.f0) := by
    rcases cs with ⟨cs⟩
    change (k24).K W x cs at hK2
    obtain ⟨_, _, rfl, ⟨A0, c0, rfl, hl0, hC0⟩, rfl⟩ := hK2
    exact ⟨A0, c0, rfl, hl0, hC0⟩
  obtain rfl : cs = #[.slice A0 (x.f0).length c0, .string (x.f1)] := Array.toList_inj.1 hv
  clear hA0 hval0 hsz0 hsz hval
  obtain ⟨k, hp⟩ := MsgBytesPure.pure x hok
  refine (thresherlaw15_MsgBytes.calls k A0 c0 (x.f0) (x.f1) true W hC0 hl0 hp).mono fun e W' h_ => ?_
  obtain ⟨he, hd⟩ := h_
  have bel : Below W.heap.size W W' := hd
  subst he
  exact ⟨_, rfl, _, _, _, [], _, [], hW', trodAll_mk1 (shut_bool Try.underlying4 _), (trodAll_cons_mk (Below.trod laidOut (by kernel_rfl) (of_decide_eq_true (by kernel_rfl)) k0 bel lt0) trodAll_mk0), rfl, bel.frame _, fun h => by cases h⟩
theorem over : Rows.msgBytesRow.holds Try.pinned (OpenSpec.ofChange Rows.msgBytesSpec) :=
  OpenClaim.holds_of_wide 3 Try.f3 rfl rfl rfl rfl rfl rfl rfl ⟨rfl, rfl, rfl, rfl, rfl⟩ rfl rfl rfl rfl rfl (by kernel_rfl) Try.func3 (by kernel_rfl)
    (of_decide_eq_true (by kernel_rfl)) (by unfold Func.isWrapper; first | (rw [if_pos (by decide +kernel)]; kernel_rfl) | (rw [if_neg (by decide +kernel)]; exact ⟨rfl, rfl⟩))
    (fun os started H enc _ => lifted os started H enc)
theorem proved : Rows.MsgBytesSaid := over
end Go.Proofs.Ytjboibdoelkfpaa.msgBytes
namespace Go.Proofs.Ytjboibdoelkfpaa
theorem msgBytes_holds : Rows.MsgBytesSaid := msgBytes.proved
#print axioms msgBytes_holds
end Go.Proofs.Ytjboibdoelkfpaa
