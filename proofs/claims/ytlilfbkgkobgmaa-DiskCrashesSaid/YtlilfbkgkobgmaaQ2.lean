/- Contracts of the Go functions that these laws reach: each call answers what the plain Lean function beside it says. Written by a program of this session (pp.py). -/
import Derived.Test.YtlilfbkgkobgmaaQ0
import Derived.Test.YtlilfbkgkobgmaaQ1
namespace Go.Proofs.Ytlilfbkgkobgmaa.Q
open Go.RowKit Go.Proofs.YtlilfbkgkobgmaaW.PrintWords Go.Proofs.YtlilfbkgkobgmaaW.PrintLast Go.Proofs.YtlilfbkgkobgmaaW.PrintMore
attribute [local go_sem] max2_int min2_int max_two min_two max_three min_three max_four min_four   -- for this text's walks alone
set_option linter.unusedVariables false
set_option linter.unusedSimpArgs false

/-! ### thresherlaw17_DiskSafe: function 3 -/
namespace DiskSafe
open DiskWakes
theorem infoU8 : (Try.prog.info? 5).map (fun i => (i.zero, i.size, i.bytes)) = some (some (.int .u8 0), 1, 1) := by kernel_rfl
theorem old_append : disk_Disk_Append.f ⟨#[111, 108, 100]⟩ 3 false (-1) ⟨#[101, 114]⟩ = some (0, ⟨#[111, 108, 100, 101, 114]⟩, 3, false, (-1)) := by kernel_rfl
theorem old_sync : disk_Disk_Sync.f ⟨#[111, 108, 100, 101, 114]⟩ 3 false (-1) = some (0, ⟨#[111, 108, 100, 101, 114]⟩, 5, false, (-1)) := by kernel_rfl
theorem old_rest : disk_Disk_Append.f ⟨#[111, 108, 100, 101, 114]⟩ 5 false (-1) ⟨#[114, 101, 115, 116, 46]⟩ = some (0, ⟨#[111, 108, 100, 101, 114, 114, 101, 115, 116, 46]⟩, 5, false, (-1)) := by kernel_rfl
theorem off_append : disk_Disk_Append.f ⟨#[111, 108, 100, 101, 114, 114, 101, 115, 116, 46]⟩ 5 true (-1) ⟨#[120]⟩ = some (12, ⟨#[111, 108, 100, 101, 114, 114, 101, 115, 116, 46]⟩, 5, true, (-1)) := by kernel_rfl
theorem off_sync : disk_Disk_Sync.f ⟨#[111, 108, 100, 101, 114, 114, 101, 115, 116, 46]⟩ 5 true (-1) = some (12, ⟨#[111, 108, 100, 101, 114, 114, 101, 115, 116, 46]⟩, 5, true, (-1)) := by kernel_rfl
theorem off_crash : disk_Disk_Crash.f ⟨#[111, 108, 100, 101, 114, 114, 101, 115, 116, 46]⟩ 5 true (-1) 0 = some (⟨#[111, 108, 100, 101, 114]⟩, ⟨#[111, 108, 100, 101, 114, 114, 101, 115, 116, 46]⟩, 5, true, (-1)) := by kernel_rfl
theorem crash_m2 : disk_Disk_Crash.f ⟨#[111, 108, 100, 101, 114, 114, 101, 115, 116, 46]⟩ 5 false (-1) (-2) = some (⟨#[111, 108, 100, 101, 114]⟩, ⟨#[111, 108, 100, 101, 114, 114, 101, 115, 116, 46]⟩, 5, true, (-1)) := by kernel_rfl
theorem goes_m2 : disk_Disk_Off.f ⟨#[97]⟩ 1 false (-1) (-2) = some (⟨#[97]⟩, 1, true, 0) := by kernel_rfl
theorem swap_m2 : disk_Disk_Swap.f ⟨#[97]⟩ 1 true 0 ⟨#[98, 99]⟩ = some (12, ⟨#[97]⟩, 1, true, 0) := by kernel_rfl
theorem last_m2 : disk_Disk_Crash.f ⟨#[97]⟩ 1 true 0 9 = some (⟨#[97]⟩, ⟨#[97]⟩, 1, true, 0) := by kernel_rfl
theorem ext_m2 : (⟨#[111, 108, 100, 101, 114, 114, 101, 115, 116, 46]⟩ : ByteArray).extract 0 5 = ⟨#[111, 108, 100, 101, 114]⟩ := by kernel_rfl
theorem crash_m1 : disk_Disk_Crash.f ⟨#[111, 108, 100, 101, 114, 114, 101, 115, 116, 46]⟩ 5 false (-1) (-1) = some (⟨#[111, 108, 100, 101, 114]⟩, ⟨#[111, 108, 100, 101, 114, 114, 101, 115, 116, 46]⟩, 5, true, (-1)) := by kernel_rfl
theorem goes_m1 : disk_Disk_Off.f ⟨#[97]⟩ 1 false (-1) (-1) = some (⟨#[97]⟩, 1, true, 0) := by kernel_rfl
theorem swap_m1 : disk_Disk_Swap.f ⟨#[97]⟩ 1 true 0 ⟨#[98, 99]⟩ = some (12, ⟨#[97]⟩, 1, true, 0) := by kernel_rfl
theorem last_m1 : disk_Disk_Crash.f ⟨#[97]⟩ 1 true 0 9 = some (⟨#[97]⟩, ⟨#[97]⟩, 1, true, 0) := by kernel_rfl
theorem ext_m1 : (⟨#[111, 108, 100, 101, 114, 114, 101, 115, 116, 46]⟩ : ByteArray).extract 0 5 = ⟨#[111, 108, 100, 101, 114]⟩ := by kernel_rfl
theorem crash_0 : disk_Disk_Crash.f ⟨#[111, 108, 100, 101, 114, 114, 101, 115, 116, 46]⟩ 5 false (-1) 0 = some (⟨#[111, 108, 100, 101, 114]⟩, ⟨#[111, 108, 100, 101, 114, 114, 101, 115, 116, 46]⟩, 5, true, (-1)) := by kernel_rfl
theorem goes_0 : disk_Disk_Off.f ⟨#[97]⟩ 1 false (-1) 0 = some (⟨#[97]⟩, 1, true, 0) := by kernel_rfl
theorem swap_0 : disk_Disk_Swap.f ⟨#[97]⟩ 1 true 0 ⟨#[98, 99]⟩ = some (12, ⟨#[97]⟩, 1, true, 0) := by kernel_rfl
theorem last_0 : disk_Disk_Crash.f ⟨#[97]⟩ 1 true 0 9 = some (⟨#[97]⟩, ⟨#[97]⟩, 1, true, 0) := by kernel_rfl
theorem ext_0 : (⟨#[111, 108, 100, 101, 114, 114, 101, 115, 116, 46]⟩ : ByteArray).extract 0 5 = ⟨#[111, 108, 100, 101, 114]⟩ := by kernel_rfl
theorem crash_1 : disk_Disk_Crash.f ⟨#[111, 108, 100, 101, 114, 114, 101, 115, 116, 46]⟩ 5 false (-1) 1 = some (⟨#[111, 108, 100, 101, 114, 114]⟩, ⟨#[111, 108, 100, 101, 114, 114, 101, 115, 116, 46]⟩, 5, true, (-1)) := by kernel_rfl
theorem goes_1 : disk_Disk_Off.f ⟨#[97]⟩ 1 false (-1) 1 = some (⟨#[97]⟩, 1, false, 1) := by kernel_rfl
theorem swap_1 : disk_Disk_Swap.f ⟨#[97]⟩ 1 false 1 ⟨#[98, 99]⟩ = some (12, ⟨#[97]⟩, 1, true, 0) := by kernel_rfl
theorem last_1 : disk_Disk_Crash.f ⟨#[97]⟩ 1 true 0 9 = some (⟨#[97]⟩, ⟨#[97]⟩, 1, true, 0) := by kernel_rfl
theorem ext_1 : (⟨#[111, 108, 100, 101, 114, 114, 101, 115, 116, 46]⟩ : ByteArray).extract 0 6 = ⟨#[111, 108, 100, 101, 114, 114]⟩ := by kernel_rfl
theorem crash_2 : disk_Disk_Crash.f ⟨#[111, 108, 100, 101, 114, 114, 101, 115, 116, 46]⟩ 5 false (-1) 2 = some (⟨#[111, 108, 100, 101, 114, 114, 101]⟩, ⟨#[111, 108, 100, 101, 114, 114, 101, 115, 116, 46]⟩, 5, true, (-1)) := by kernel_rfl
theorem goes_2 : disk_Disk_Off.f ⟨#[97]⟩ 1 false (-1) 2 = some (⟨#[97]⟩, 1, false, 2) := by kernel_rfl
theorem swap_2 : disk_Disk_Swap.f ⟨#[97]⟩ 1 false 2 ⟨#[98, 99]⟩ = some (0, ⟨#[98, 99]⟩, 2, false, 1) := by kernel_rfl
theorem last_2 : disk_Disk_Crash.f ⟨#[98, 99]⟩ 2 false 1 9 = some (⟨#[98, 99]⟩, ⟨#[98, 99]⟩, 2, true, 1) := by kernel_rfl
theorem ext_2 : (⟨#[111, 108, 100, 101, 114, 114, 101, 115, 116, 46]⟩ : ByteArray).extract 0 7 = ⟨#[111, 108, 100, 101, 114, 114, 101]⟩ := by kernel_rfl
theorem crash_3 : disk_Disk_Crash.f ⟨#[111, 108, 100, 101, 114, 114, 101, 115, 116, 46]⟩ 5 false (-1) 3 = some (⟨#[111, 108, 100, 101, 114, 114, 101, 115]⟩, ⟨#[111, 108, 100, 101, 114, 114, 101, 115, 116, 46]⟩, 5, true, (-1)) := by kernel_rfl
theorem goes_3 : disk_Disk_Off.f ⟨#[97]⟩ 1 false (-1) 3 = some (⟨#[97]⟩, 1, false, 3) := by kernel_rfl
theorem swap_3 : disk_Disk_Swap.f ⟨#[97]⟩ 1 false 3 ⟨#[98, 99]⟩ = some (0, ⟨#[98, 99]⟩, 2, false, 2) := by kernel_rfl
theorem last_3 : disk_Disk_Crash.f ⟨#[98, 99]⟩ 2 false 2 9 = some (⟨#[98, 99]⟩, ⟨#[98, 99]⟩, 2, true, 2) := by kernel_rfl
theorem ext_3 : (⟨#[111, 108, 100, 101, 114, 114, 101, 115, 116, 46]⟩ : ByteArray).extract 0 8 = ⟨#[111, 108, 100, 101, 114, 114, 101, 115]⟩ := by kernel_rfl
theorem crash_4 : disk_Disk_Crash.f ⟨#[111, 108, 100, 101, 114, 114, 101, 115, 116, 46]⟩ 5 false (-1) 4 = some (⟨#[111, 108, 100, 101, 114, 114, 101, 115, 116]⟩, ⟨#[111, 108, 100, 101, 114, 114, 101, 115, 116, 46]⟩, 5, true, (-1)) := by kernel_rfl
theorem goes_4 : disk_Disk_Off.f ⟨#[97]⟩ 1 false (-1) 4 = some (⟨#[97]⟩, 1, false, 4) := by kernel_rfl
theorem swap_4 : disk_Disk_Swap.f ⟨#[97]⟩ 1 false 4 ⟨#[98, 99]⟩ = some (0, ⟨#[98, 99]⟩, 2, false, 3) := by kernel_rfl
theorem last_4 : disk_Disk_Crash.f ⟨#[98, 99]⟩ 2 false 3 9 = some (⟨#[98, 99]⟩, ⟨#[98, 99]⟩, 2, true, 3) := by kernel_rfl
theorem ext_4 : (⟨#[111, 108, 100, 101, 114, 114, 101, 115, 116, 46]⟩ : ByteArray).extract 0 9 = ⟨#[111, 108, 100, 101, 114, 114, 101, 115, 116]⟩ := by kernel_rfl
theorem crash_5 : disk_Disk_Crash.f ⟨#[111, 108, 100, 101, 114, 114, 101, 115, 116, 46]⟩ 5 false (-1) 5 = some (⟨#[111, 108, 100, 101, 114, 114, 101, 115, 116, 46]⟩, ⟨#[111, 108, 100, 101, 114, 114, 101, 115, 116, 46]⟩, 5, true, (-1)) := by kernel_rfl
theorem goes_5 : disk_Disk_Off.f ⟨#[97]⟩ 1 false (-1) 5 = some (⟨#[97]⟩, 1, false, 5) := by kernel_rfl
theorem swap_5 : disk_Disk_Swap.f ⟨#[97]⟩ 1 false 5 ⟨#[98, 99]⟩ = some (0, ⟨#[98, 99]⟩, 2, false, 4) := by kernel_rfl
theorem last_5 : disk_Disk_Crash.f ⟨#[98, 99]⟩ 2 false 4 9 = some (⟨#[98, 99]⟩, ⟨#[98, 99]⟩, 2, true, 4) := by kernel_rfl
theorem ext_5 : (⟨#[111, 108, 100, 101, 114, 114, 101, 115, 116, 46]⟩ : ByteArray).extract 0 10 = ⟨#[111, 108, 100, 101, 114, 114, 101, 115, 116, 46]⟩ := by kernel_rfl
theorem crash_6 : disk_Disk_Crash.f ⟨#[111, 108, 100, 101, 114, 114, 101, 115, 116, 46]⟩ 5 false (-1) 6 = some (⟨#[111, 108, 100, 101, 114, 114, 101, 115, 116, 46]⟩, ⟨#[111, 108, 100, 101, 114, 114, 101, 115, 116, 46]⟩, 5, true, (-1)) := by kernel_rfl
theorem goes_6 : disk_Disk_Off.f ⟨#[97]⟩ 1 false (-1) 6 = some (⟨#[97]⟩, 1, false, 6) := by kernel_rfl
theorem swap_6 : disk_Disk_Swap.f ⟨#[97]⟩ 1 false 6 ⟨#[98, 99]⟩ = some (0, ⟨#[98, 99]⟩, 2, false, 5) := by kernel_rfl
theorem last_6 : disk_Disk_Crash.f ⟨#[98, 99]⟩ 2 false 5 9 = some (⟨#[98, 99]⟩, ⟨#[98, 99]⟩, 2, true, 5) := by kernel_rfl
theorem ext_6 : (⟨#[111, 108, 100, 101, 114, 114, 101, 115, 116, 46]⟩ : ByteArray).extract 0 10 = ⟨#[111, 108, 100, 101, 114, 114, 101, 115, 116, 46]⟩ := by kernel_rfl
theorem crash_7 : disk_Disk_Crash.f ⟨#[111, 108, 100, 101, 114, 114, 101, 115, 116, 46]⟩ 5 false (-1) 7 = some (⟨#[111, 108, 100, 101, 114, 114, 101, 115, 116, 46]⟩, ⟨#[111, 108, 100, 101, 114, 114, 101, 115, 116, 46]⟩, 5, true, (-1)) := by kernel_rfl
theorem goes_7 : disk_Disk_Off.f ⟨#[97]⟩ 1 false (-1) 7 = some (⟨#[97]⟩, 1, false, 7) := by kernel_rfl
theorem swap_7 : disk_Disk_Swap.f ⟨#[97]⟩ 1 false 7 ⟨#[98, 99]⟩ = some (0, ⟨#[98, 99]⟩, 2, false, 6) := by kernel_rfl
theorem last_7 : disk_Disk_Crash.f ⟨#[98, 99]⟩ 2 false 6 9 = some (⟨#[98, 99]⟩, ⟨#[98, 99]⟩, 2, true, 6) := by kernel_rfl
theorem ext_7 : (⟨#[111, 108, 100, 101, 114, 114, 101, 115, 116, 46]⟩ : ByteArray).extract 0 10 = ⟨#[111, 108, 100, 101, 114, 114, 101, 115, 116, 46]⟩ := by kernel_rfl
theorem crash_8 : disk_Disk_Crash.f ⟨#[111, 108, 100, 101, 114, 114, 101, 115, 116, 46]⟩ 5 false (-1) 8 = some (⟨#[111, 108, 100, 101, 114, 114, 101, 115, 116, 46]⟩, ⟨#[111, 108, 100, 101, 114, 114, 101, 115, 116, 46]⟩, 5, true, (-1)) := by kernel_rfl
theorem goes_8 : disk_Disk_Off.f ⟨#[97]⟩ 1 false (-1) 8 = some (⟨#[97]⟩, 1, false, 8) := by kernel_rfl
theorem swap_8 : disk_Disk_Swap.f ⟨#[97]⟩ 1 false 8 ⟨#[98, 99]⟩ = some (0, ⟨#[98, 99]⟩, 2, false, 7) := by kernel_rfl
theorem last_8 : disk_Disk_Crash.f ⟨#[98, 99]⟩ 2 false 7 9 = some (⟨#[98, 99]⟩, ⟨#[98, 99]⟩, 2, true, 7) := by kernel_rfl
theorem ext_8 : (⟨#[111, 108, 100, 101, 114, 114, 101, 115, 116, 46]⟩ : ByteArray).extract 0 10 = ⟨#[111, 108, 100, 101, 114, 114, 101, 115, 116, 46]⟩ := by kernel_rfl
theorem big_event {ops : Array Oper} {rest : List Oper} {o : Oper} {a : Act} {Q : Exit → Act → World → Prop} {W : World} (hgd : o.guard = none) {N : Tmp} (hd : o.dst = some N) {x y : Operand} (ho : o.op = .makeSlice 34 x y) (hx : a.eval x = .int .i64 131072) (hy : a.eval y = .int .i64 131072)
    (h : ∀ v w1 (big : ByteArray), Aside0 (big.size = 131072) → Aside0 ((big ++ ⟨#[120]⟩ : ByteArray).size = 131073) → decide (big.size + (⟨#[120]⟩ : ByteArray).size ≤ 9223372036854775807) = true → big.size + (⟨#[120]⟩ : ByteArray).size ≤ 9223372036854775807 → Below W.heap.size W w1 → (convert 34 9 v).run Try.prog w1 = .ok (.string big) w1 → wpList Try.prog ops Q rest (a.put o.dst v) w1) : wpList Try.prog ops Q (o :: rest) a W := by
  refine Kd.R_make (Kd.int .u8) _ 5 hgd hd 34 _ _ ho 131072 hx hy Try.underlying34 (.int .u8 0) 1 infoU8 rfl (by decide) (by omega) 0 (ok := fun _ => True) (okp := fun _ => True) rfl (fun _ hk => hk) trivial (by omega) (by omega) (Below.refl _ _) (Nat.le_refl _) ?_
  intro v w1 hR hb _ _
  have hsz : (strOfNums (List.replicate (131072 : Int).toNat 0)).size = 131072 := by
    rw [strOfNums_size, List.length_replicate]
    rfl
  have hx1 : (⟨#[120]⟩ : ByteArray).size = 1 := rfl
  refine h v w1 (strOfNums (List.replicate (131072 : Int).toNat 0)) ⟨hsz⟩ ⟨?_⟩ (decide_eq_true ?_) ?_ hb ?_
  · rw [ByteArray.size_append, hsz, hx1]
  · rw [hsz, hx1]
    omega
  · rw [hsz, hx1]
    omega
  · exact own_string Try.underlying34 Try.underlying5 Try.underlying9 (Kd.own_of_R hR)
theorem big_append (b : ByteArray) (h : b.size = 131072) : disk_Disk_Append.f b (b.size : Int) false (-1) ⟨#[120]⟩ = some (5, b, (b.size : Int), false, -1) := by
  have hc : disk_Disk_counts.f b (b.size : Int) false (-1) = some (0, b, (b.size : Int), false, -1) := rfl
  have hx : ((⟨#[120]⟩ : ByteArray).size : Int) = 1 := rfl
  unfold disk_Disk_Append.f
  rw [hc]
  simp only [Option.bind_some]
  rw [if_pos trivial, if_pos (by rw [h, hx]; unfold wrap64; omega)]
theorem big_swap (b c : ByteArray) (h : b.size = 131072) (hc_ : c.size = 131073) : disk_Disk_Swap.f b (b.size : Int) false (-1) c = some (5, b, (b.size : Int), false, -1) := by
  have hc : disk_Disk_counts.f b (b.size : Int) false (-1) = some (0, b, (b.size : Int), false, -1) := rfl
  unfold disk_Disk_Swap.f
  rw [hc]
  simp only [Option.bind_some]
  rw [if_pos trivial, if_pos (by rw [hc_]; omega)]
set_option maxHeartbeats 40000000 in
set_option maxRecDepth 100000 in
theorem safe_calls (S : ByteArray) (A : Option Addr) (n c : Nat) (w : World) :
    Calls Try.prog 3 #[.agg #[.string S, .slice A n c]] w fun e w' => e = .returned (.bool true) ∧ Below w.heap.size w w' := by
  have hu24 := Try.underlying24
  have HB := Aside0.mk (Below.refl w.heap.size w)
  obtain ⟨N, hN⟩ : ∃ N : Nat, N = 131072 := ⟨_, rfl⟩
  have HN := Aside0.mk hN
  clear hN
  have hlen0 : (0 : Int) ≤ (n : Int) := Int.natCast_nonneg _
  have hlen1 : decide ((n : Int) ≥ 0) = true := decide_eq_true hlen0
  go_enter Try.func3, Try.ntmps3
  go_wp2_with (first
    | ((with_reducible refine gate_dst (N := 1) rfl ?_); refine box_event ?hg (N := 1) ?hd (cs := #[.string S, .slice A n c]) (t := 24) ?hr ?_; (case hd => rfl); (case hg => rfl); (case hr => first | (go_simp; done) | (go_simp; rfl)); intro gb hg w2 hbox hb; have n0_ := Aside0.mk (below_step HB.out hb); have BK := Aside0.mk hbox; clear HB; have HB := n0_; clear n0_; clear hb hbox hg))
  go_loopg [3] 11 (fun m v3 w' => ∃ (i : Int), v3 = .int .i64 i ∧ Aside0 (-2 ≤ i ∧ i + m = 9) ∧ Aside0 (w'.heap[gb]? = some (.cells #[.string S, .slice A n c] 24 (0, 0))) ∧ Aside0 (Below w.heap.size w w'))
  case atStart => exact ⟨-2, rfl, ⟨by omega⟩, ⟨BK.out⟩, ⟨HB.out⟩⟩
  case round =>
    clear BK HB
    obtain ⟨i, rfl, HI, BK, HB⟩ := hrel
    by_cases hlt : i < 9
    · obtain ⟨m, rfl⟩ : ∃ m, gk = m + 1 := ⟨gk - 1, by have := HI.out.2; omega⟩
      have h0 : -2 ≤ i := HI.out.1
      obtain rfl | rfl | rfl | rfl | rfl | rfl | rfl | rfl | rfl | rfl | rfl : i = -2 ∨ i = -1 ∨ i = 0 ∨ i = 1 ∨ i = 2 ∨ i = 3 ∨ i = 4 ∨ i = 5 ∨ i = 6 ∨ i = 7 ∨ i = 8 := by omega
      all_goals clear hlt h0
      · as_aux_lemma =>
          have E1 := Aside0.mk old_append
          have E2 := Aside0.mk old_sync
          have E3 := Aside0.mk old_rest
          have E4 := Aside0.mk crash_m2
          have E5 := Aside0.mk off_append
          have E6 := Aside0.mk off_sync
          have E7 := Aside0.mk off_crash
          have E8 := Aside0.mk goes_m2
          have E9 := Aside0.mk swap_m2
          have E10 := Aside0.mk last_m2
          have hext := ext_m2
          have hsz_ : (⟨#[111, 108, 100, 101, 114, 114, 101, 115, 116, 46]⟩ : ByteArray).size = 10 := rfl
          have hw1_ : IntKind.i64.wrap (5 + 0) = 5 := rfl
          have hw2_ : IntKind.i64.wrap 5 = 5 := rfl
          go_wp2_with (first
            | (go_at_call 9; (with_reducible refine (new_ok ⟨#[111, 108, 100]⟩ (by decide) w _ HB.out).mono ?_); rintro e w4 ⟨gd, rfl, hi, hb, hb2, hgd⟩; have HD := Aside0.mk hi; have NB : Aside0 (gb ≠ gd) := ⟨by have h1_ := blk_lt BK.out; omega⟩; have n1_ := Aside0.mk (blk_below BK.out hb2); clear HB BK; have HB := Aside0.mk hb; have BK := n1_; clear n1_ hi hb hb2 hgd)
            | (go_at_call 10; (with_reducible refine (thresherlaw17_num.calls 0 0 _ rfl).mono ?_); rintro e w9 ⟨rfl, hd⟩; have hb := hd.below; clear hd; have n1_ := Aside0.mk (blk_below (show _ from by repeat (first | exact BK.out | refine blk_drewN ?_ _ | refine blk_drew ?_)) hb); have n0_ := Aside0.mk (IsS54.below (show IsS54 w _ gd _ _ _ _ from HD.out) hb); have n4_ := Aside0.mk (below_step (by repeat (first | (with_reducible first | exact HB.out | apply below_alloc | apply pw_below_drewN | apply below_drew1) | exact HB.out)) hb); clear HD BK HB; have HB := n4_; have HD := n0_; have BK := n1_; clear n0_ n1_ n4_ hb)
            | (go_at_call 11; (with_reducible refine (disk_Disk_Append.calls gd _ _ _ _ ⟨#[101, 114]⟩ _ _ _ _ _ w _ ?s1 ?s2 E1.out).mono ?_); (case s1 => exact HD.out); (case s2 => repeat (first | (with_reducible first | exact HB.out | apply below_alloc | apply pw_below_drewN | apply below_drew1) | exact HB.out)); rintro e w9 ⟨rfl, hi, hb, hk⟩; have n1_ := Aside0.mk (keepB BK.out hk NB.out); clear HD BK HB; have HB := Aside0.mk hb; have HD := Aside0.mk hi; have BK := n1_; clear n1_ hi hb hk)
            | (go_at_call 12; (with_reducible refine (disk_Disk_Sync.calls gd _ _ _ _ _ _ _ _ _ w _ ?s1 ?s2 E2.out).mono ?_); (case s1 => exact HD.out); (case s2 => repeat (first | (with_reducible first | exact HB.out | apply below_alloc | apply pw_below_drewN | apply below_drew1) | exact HB.out)); rintro e w9 ⟨rfl, hi, hb, hk⟩; have n1_ := Aside0.mk (keepB BK.out hk NB.out); clear HD BK HB; have HB := Aside0.mk hb; have HD := Aside0.mk hi; have BK := n1_; clear n1_ hi hb hk)
            | (go_at_call 11; (with_reducible refine (disk_Disk_Append.calls gd _ _ _ _ ⟨#[114, 101, 115, 116, 46]⟩ _ _ _ _ _ w _ ?s1 ?s2 E3.out).mono ?_); (case s1 => exact HD.out); (case s2 => repeat (first | (with_reducible first | exact HB.out | apply below_alloc | apply pw_below_drewN | apply below_drew1) | exact HB.out)); rintro e w9 ⟨rfl, hi, hb, hk⟩; have n1_ := Aside0.mk (keepB BK.out hk NB.out); clear HD BK HB; have HB := Aside0.mk hb; have HD := Aside0.mk hi; have BK := n1_; clear n1_ hi hb hk))
          go_region_held3 (fun _ => True) (trivial) (first
              | (go_at_call 13; (with_reducible refine (disk_Disk_Crash.calls gd _ _ _ _ (-2) _ _ _ _ _ w _ ?s1 ?s2 E4.out).mono ?_); (case s1 => exact HD.out); (case s2 => repeat (first | (with_reducible first | exact HB.out | apply below_alloc | apply pw_below_drewN | apply below_drew1) | exact HB.out)); rintro e w9 ⟨rfl, hi, hb, hk⟩; have n1_ := Aside0.mk (keepB BK.out hk NB.out); clear HD BK HB; have HB := Aside0.mk hb; have HD := Aside0.mk hi; have BK := n1_; clear n1_ hi hb hk)
              | (go_at_call 11; (with_reducible refine (disk_Disk_Append.calls gd _ _ _ _ ⟨#[120]⟩ _ _ _ _ _ w _ ?s1 ?s2 E5.out).mono ?_); (case s1 => exact HD.out); (case s2 => repeat (first | (with_reducible first | exact HB.out | apply below_alloc | apply pw_below_drewN | apply below_drew1) | exact HB.out)); rintro e w9 ⟨rfl, hi, hb, hk⟩; have n1_ := Aside0.mk (keepB BK.out hk NB.out); clear HD BK HB; have HB := Aside0.mk hb; have HD := Aside0.mk hi; have BK := n1_; clear n1_ hi hb hk)
              | (go_at_call 12; (with_reducible refine (disk_Disk_Sync.calls gd _ _ _ _ _ _ _ _ _ w _ ?s1 ?s2 E6.out).mono ?_); (case s1 => exact HD.out); (case s2 => repeat (first | (with_reducible first | exact HB.out | apply below_alloc | apply pw_below_drewN | apply below_drew1) | exact HB.out)); rintro e w9 ⟨rfl, hi, hb, hk⟩; have n1_ := Aside0.mk (keepB BK.out hk NB.out); clear HD BK HB; have HB := Aside0.mk hb; have HD := Aside0.mk hi; have BK := n1_; clear n1_ hi hb hk)
              | (go_at_call 10; (with_reducible refine (thresherlaw17_num.calls 12 12 _ rfl).mono ?_); rintro e w9 ⟨rfl, hd⟩; have hb := hd.below; clear hd; have n1_ := Aside0.mk (blk_below (show _ from by repeat (first | exact BK.out | refine blk_drewN ?_ _ | refine blk_drew ?_)) hb); have n0_ := Aside0.mk (IsS54.below (show IsS54 w _ gd _ _ _ _ from HD.out) hb); have n4_ := Aside0.mk (below_step (by repeat (first | (with_reducible first | exact HB.out | apply below_alloc | apply pw_below_drewN | apply below_drew1) | exact HB.out)) hb); clear HD BK HB; have HB := n4_; have HD := n0_; have BK := n1_; clear n0_ n1_ n4_ hb)
              | (go_at_call 13; (with_reducible refine (disk_Disk_Crash.calls gd _ _ _ _ 0 _ _ _ _ _ w _ ?s1 ?s2 E7.out).mono ?_); (case s1 => exact HD.out); (case s2 => repeat (first | (with_reducible first | exact HB.out | apply below_alloc | apply pw_below_drewN | apply below_drew1) | exact HB.out)); rintro e w9 ⟨rfl, hi, hb, hk⟩; have n1_ := Aside0.mk (keepB BK.out hk NB.out); clear HD BK HB; have HB := Aside0.mk hb; have HD := Aside0.mk hi; have BK := n1_; clear n1_ hi hb hk))
          all_goals
            go_wp2_with (first
              | (go_at_call 9; (with_reducible refine (new_ok ⟨#[97]⟩ (by decide) w _ HB.out).mono ?_); rintro e w4 ⟨gd, rfl, hi, hb, hb2, hgd⟩; clear HD NB; have HD := Aside0.mk hi; have NB : Aside0 (gb ≠ gd) := ⟨by have h1_ := blk_lt BK.out; omega⟩; have n1_ := Aside0.mk (blk_below BK.out hb2); clear HB BK; have HB := Aside0.mk hb; have BK := n1_; clear n1_ hi hb hb2 hgd)
              | (go_at_call 10; (with_reducible refine (thresherlaw17_num.calls 0 0 _ rfl).mono ?_); rintro e w9 ⟨rfl, hd⟩; have hb := hd.below; clear hd; have n1_ := Aside0.mk (blk_below (show _ from by repeat (first | exact BK.out | refine blk_drewN ?_ _ | refine blk_drew ?_)) hb); have n0_ := Aside0.mk (IsS54.below (show IsS54 w _ gd _ _ _ _ from HD.out) hb); have n4_ := Aside0.mk (below_step (by repeat (first | (with_reducible first | exact HB.out | apply below_alloc | apply pw_below_drewN | apply below_drew1) | exact HB.out)) hb); clear HD BK HB; have HB := n4_; have HD := n0_; have BK := n1_; clear n0_ n1_ n4_ hb)
              | (go_at_call 14; (with_reducible refine (disk_Disk_Off.calls gd _ _ _ _ (-2) _ _ _ _ w _ ?s1 ?s2 E8.out).mono ?_); (case s1 => exact HD.out); (case s2 => repeat (first | (with_reducible first | exact HB.out | apply below_alloc | apply pw_below_drewN | apply below_drew1) | exact HB.out)); rintro e w9 ⟨rfl, hi, hb, hk⟩; have n1_ := Aside0.mk (keepB BK.out hk NB.out); clear HD BK HB; have HB := Aside0.mk hb; have HD := Aside0.mk hi; have BK := n1_; clear n1_ hi hb hk)
              | (go_at_call 15; (with_reducible refine (disk_Disk_Swap.calls gd _ _ _ _ ⟨#[98, 99]⟩ _ _ _ _ _ w _ ?s1 ?s2 E9.out).mono ?_); (case s1 => exact HD.out); (case s2 => repeat (first | (with_reducible first | exact HB.out | apply below_alloc | apply pw_below_drewN | apply below_drew1) | exact HB.out)); rintro e w9 ⟨rfl, hi, hb, hk⟩; have n1_ := Aside0.mk (keepB BK.out hk NB.out); clear HD BK HB; have HB := Aside0.mk hb; have HD := Aside0.mk hi; have BK := n1_; clear n1_ hi hb hk)
              | (go_at_call 10; (with_reducible refine (thresherlaw17_num.calls 12 12 _ rfl).mono ?_); rintro e w9 ⟨rfl, hd⟩; have hb := hd.below; clear hd; have n1_ := Aside0.mk (blk_below (show _ from by repeat (first | exact BK.out | refine blk_drewN ?_ _ | refine blk_drew ?_)) hb); have n0_ := Aside0.mk (IsS54.below (show IsS54 w _ gd _ _ _ _ from HD.out) hb); have n4_ := Aside0.mk (below_step (by repeat (first | (with_reducible first | exact HB.out | apply below_alloc | apply pw_below_drewN | apply below_drew1) | exact HB.out)) hb); clear HD BK HB; have HB := n4_; have HD := n0_; have BK := n1_; clear n0_ n1_ n4_ hb)
              | (go_at_call 13; (with_reducible refine (disk_Disk_Crash.calls gd _ _ _ _ 9 _ _ _ _ _ w _ ?s1 ?s2 E10.out).mono ?_); (case s1 => exact HD.out); (case s2 => repeat (first | (with_reducible first | exact HB.out | apply below_alloc | apply pw_below_drewN | apply below_drew1) | exact HB.out)); rintro e w9 ⟨rfl, hi, hb, hk⟩; have n1_ := Aside0.mk (keepB BK.out hk NB.out); clear HD BK HB; have HB := Aside0.mk hb; have HD := Aside0.mk hi; have BK := n1_; clear n1_ hi hb hk))
            go_roundg m
            case measure => omega
            case rel => exact ⟨(-1), rfl, ⟨by have := HI.out; omega⟩, ⟨BK.out⟩, ⟨HB.out⟩⟩
      · as_aux_lemma =>
          have E1 := Aside0.mk old_append
          have E2 := Aside0.mk old_sync
          have E3 := Aside0.mk old_rest
          have E4 := Aside0.mk crash_m1
          have E5 := Aside0.mk off_append
          have E6 := Aside0.mk off_sync
          have E7 := Aside0.mk off_crash
          have E8 := Aside0.mk goes_m1
          have E9 := Aside0.mk swap_m1
          have E10 := Aside0.mk last_m1
          have hext := ext_m1
          have hsz_ : (⟨#[111, 108, 100, 101, 114, 114, 101, 115, 116, 46]⟩ : ByteArray).size = 10 := rfl
          have hw1_ : IntKind.i64.wrap (5 + 0) = 5 := rfl
          have hw2_ : IntKind.i64.wrap 5 = 5 := rfl
          go_wp2_with (first
            | (go_at_call 9; (with_reducible refine (new_ok ⟨#[111, 108, 100]⟩ (by decide) w _ HB.out).mono ?_); rintro e w4 ⟨gd, rfl, hi, hb, hb2, hgd⟩; have HD := Aside0.mk hi; have NB : Aside0 (gb ≠ gd) := ⟨by have h1_ := blk_lt BK.out; omega⟩; have n1_ := Aside0.mk (blk_below BK.out hb2); clear HB BK; have HB := Aside0.mk hb; have BK := n1_; clear n1_ hi hb hb2 hgd)
            | (go_at_call 10; (with_reducible refine (thresherlaw17_num.calls 0 0 _ rfl).mono ?_); rintro e w9 ⟨rfl, hd⟩; have hb := hd.below; clear hd; have n1_ := Aside0.mk (blk_below (show _ from by repeat (first | exact BK.out | refine blk_drewN ?_ _ | refine blk_drew ?_)) hb); have n0_ := Aside0.mk (IsS54.below (show IsS54 w _ gd _ _ _ _ from HD.out) hb); have n4_ := Aside0.mk (below_step (by repeat (first | (with_reducible first | exact HB.out | apply below_alloc | apply pw_below_drewN | apply below_drew1) | exact HB.out)) hb); clear HD BK HB; have HB := n4_; have HD := n0_; have BK := n1_; clear n0_ n1_ n4_ hb)
            | (go_at_call 11; (with_reducible refine (disk_Disk_Append.calls gd _ _ _ _ ⟨#[101, 114]⟩ _ _ _ _ _ w _ ?s1 ?s2 E1.out).mono ?_); (case s1 => exact HD.out); (case s2 => repeat (first | (with_reducible first | exact HB.out | apply below_alloc | apply pw_below_drewN | apply below_drew1) | exact HB.out)); rintro e w9 ⟨rfl, hi, hb, hk⟩; have n1_ := Aside0.mk (keepB BK.out hk NB.out); clear HD BK HB; have HB := Aside0.mk hb; have HD := Aside0.mk hi; have BK := n1_; clear n1_ hi hb hk)
            | (go_at_call 12; (with_reducible refine (disk_Disk_Sync.calls gd _ _ _ _ _ _ _ _ _ w _ ?s1 ?s2 E2.out).mono ?_); (case s1 => exact HD.out); (case s2 => repeat (first | (with_reducible first | exact HB.out | apply below_alloc | apply pw_below_drewN | apply below_drew1) | exact HB.out)); rintro e w9 ⟨rfl, hi, hb, hk⟩; have n1_ := Aside0.mk (keepB BK.out hk NB.out); clear HD BK HB; have HB := Aside0.mk hb; have HD := Aside0.mk hi; have BK := n1_; clear n1_ hi hb hk)
            | (go_at_call 11; (with_reducible refine (disk_Disk_Append.calls gd _ _ _ _ ⟨#[114, 101, 115, 116, 46]⟩ _ _ _ _ _ w _ ?s1 ?s2 E3.out).mono ?_); (case s1 => exact HD.out); (case s2 => repeat (first | (with_reducible first | exact HB.out | apply below_alloc | apply pw_below_drewN | apply below_drew1) | exact HB.out)); rintro e w9 ⟨rfl, hi, hb, hk⟩; have n1_ := Aside0.mk (keepB BK.out hk NB.out); clear HD BK HB; have HB := Aside0.mk hb; have HD := Aside0.mk hi; have BK := n1_; clear n1_ hi hb hk))
          go_region_held3 (fun _ => True) (trivial) (first
              | (go_at_call 13; (with_reducible refine (disk_Disk_Crash.calls gd _ _ _ _ (-1) _ _ _ _ _ w _ ?s1 ?s2 E4.out).mono ?_); (case s1 => exact HD.out); (case s2 => repeat (first | (with_reducible first | exact HB.out | apply below_alloc | apply pw_below_drewN | apply below_drew1) | exact HB.out)); rintro e w9 ⟨rfl, hi, hb, hk⟩; have n1_ := Aside0.mk (keepB BK.out hk NB.out); clear HD BK HB; have HB := Aside0.mk hb; have HD := Aside0.mk hi; have BK := n1_; clear n1_ hi hb hk)
              | (go_at_call 11; (with_reducible refine (disk_Disk_Append.calls gd _ _ _ _ ⟨#[120]⟩ _ _ _ _ _ w _ ?s1 ?s2 E5.out).mono ?_); (case s1 => exact HD.out); (case s2 => repeat (first | (with_reducible first | exact HB.out | apply below_alloc | apply pw_below_drewN | apply below_drew1) | exact HB.out)); rintro e w9 ⟨rfl, hi, hb, hk⟩; have n1_ := Aside0.mk (keepB BK.out hk NB.out); clear HD BK HB; have HB := Aside0.mk hb; have HD := Aside0.mk hi; have BK := n1_; clear n1_ hi hb hk)
              | (go_at_call 12; (with_reducible refine (disk_Disk_Sync.calls gd _ _ _ _ _ _ _ _ _ w _ ?s1 ?s2 E6.out).mono ?_); (case s1 => exact HD.out); (case s2 => repeat (first | (with_reducible first | exact HB.out | apply below_alloc | apply pw_below_drewN | apply below_drew1) | exact HB.out)); rintro e w9 ⟨rfl, hi, hb, hk⟩; have n1_ := Aside0.mk (keepB BK.out hk NB.out); clear HD BK HB; have HB := Aside0.mk hb; have HD := Aside0.mk hi; have BK := n1_; clear n1_ hi hb hk)
              | (go_at_call 10; (with_reducible refine (thresherlaw17_num.calls 12 12 _ rfl).mono ?_); rintro e w9 ⟨rfl, hd⟩; have hb := hd.below; clear hd; have n1_ := Aside0.mk (blk_below (show _ from by repeat (first | exact BK.out | refine blk_drewN ?_ _ | refine blk_drew ?_)) hb); have n0_ := Aside0.mk (IsS54.below (show IsS54 w _ gd _ _ _ _ from HD.out) hb); have n4_ := Aside0.mk (below_step (by repeat (first | (with_reducible first | exact HB.out | apply below_alloc | apply pw_below_drewN | apply below_drew1) | exact HB.out)) hb); clear HD BK HB; have HB := n4_; have HD := n0_; have BK := n1_; clear n0_ n1_ n4_ hb)
              | (go_at_call 13; (with_reducible refine (disk_Disk_Crash.calls gd _ _ _ _ 0 _ _ _ _ _ w _ ?s1 ?s2 E7.out).mono ?_); (case s1 => exact HD.out); (case s2 => repeat (first | (with_reducible first | exact HB.out | apply below_alloc | apply pw_below_drewN | apply below_drew1) | exact HB.out)); rintro e w9 ⟨rfl, hi, hb, hk⟩; have n1_ := Aside0.mk (keepB BK.out hk NB.out); clear HD BK HB; have HB := Aside0.mk hb; have HD := Aside0.mk hi; have BK := n1_; clear n1_ hi hb hk))
          all_goals
            go_wp2_with (first
              | (go_at_call 9; (with_reducible refine (new_ok ⟨#[97]⟩ (by decide) w _ HB.out).mono ?_); rintro e w4 ⟨gd, rfl, hi, hb, hb2, hgd⟩; clear HD NB; have HD := Aside0.mk hi; have NB : Aside0 (gb ≠ gd) := ⟨by have h1_ := blk_lt BK.out; omega⟩; have n1_ := Aside0.mk (blk_below BK.out hb2); clear HB BK; have HB := Aside0.mk hb; have BK := n1_; clear n1_ hi hb hb2 hgd)
              | (go_at_call 10; (with_reducible refine (thresherlaw17_num.calls 0 0 _ rfl).mono ?_); rintro e w9 ⟨rfl, hd⟩; have hb := hd.below; clear hd; have n1_ := Aside0.mk (blk_below (show _ from by repeat (first | exact BK.out | refine blk_drewN ?_ _ | refine blk_drew ?_)) hb); have n0_ := Aside0.mk (IsS54.below (show IsS54 w _ gd _ _ _ _ from HD.out) hb); have n4_ := Aside0.mk (below_step (by repeat (first | (with_reducible first | exact HB.out | apply below_alloc | apply pw_below_drewN | apply below_drew1) | exact HB.out)) hb); clear HD BK HB; have HB := n4_; have HD := n0_; have BK := n1_; clear n0_ n1_ n4_ hb)
              | (go_at_call 14; (with_reducible refine (disk_Disk_Off.calls gd _ _ _ _ (-1) _ _ _ _ w _ ?s1 ?s2 E8.out).mono ?_); (case s1 => exact HD.out); (case s2 => repeat (first | (with_reducible first | exact HB.out | apply below_alloc | apply pw_below_drewN | apply below_drew1) | exact HB.out)); rintro e w9 ⟨rfl, hi, hb, hk⟩; have n1_ := Aside0.mk (keepB BK.out hk NB.out); clear HD BK HB; have HB := Aside0.mk hb; have HD := Aside0.mk hi; have BK := n1_; clear n1_ hi hb hk)
              | (go_at_call 15; (with_reducible refine (disk_Disk_Swap.calls gd _ _ _ _ ⟨#[98, 99]⟩ _ _ _ _ _ w _ ?s1 ?s2 E9.out).mono ?_); (case s1 => exact HD.out); (case s2 => repeat (first | (with_reducible first | exact HB.out | apply below_alloc | apply pw_below_drewN | apply below_drew1) | exact HB.out)); rintro e w9 ⟨rfl, hi, hb, hk⟩; have n1_ := Aside0.mk (keepB BK.out hk NB.out); clear HD BK HB; have HB := Aside0.mk hb; have HD := Aside0.mk hi; have BK := n1_; clear n1_ hi hb hk)
              | (go_at_call 10; (with_reducible refine (thresherlaw17_num.calls 12 12 _ rfl).mono ?_); rintro e w9 ⟨rfl, hd⟩; have hb := hd.below; clear hd; have n1_ := Aside0.mk (blk_below (show _ from by repeat (first | exact BK.out | refine blk_drewN ?_ _ | refine blk_drew ?_)) hb); have n0_ := Aside0.mk (IsS54.below (show IsS54 w _ gd _ _ _ _ from HD.out) hb); have n4_ := Aside0.mk (below_step (by repeat (first | (with_reducible first | exact HB.out | apply below_alloc | apply pw_below_drewN | apply below_drew1) | exact HB.out)) hb); clear HD BK HB; have HB := n4_; have HD := n0_; have BK := n1_; clear n0_ n1_ n4_ hb)
              | (go_at_call 13; (with_reducible refine (disk_Disk_Crash.calls gd _ _ _ _ 9 _ _ _ _ _ w _ ?s1 ?s2 E10.out).mono ?_); (case s1 => exact HD.out); (case s2 => repeat (first | (with_reducible first | exact HB.out | apply below_alloc | apply pw_below_drewN | apply below_drew1) | exact HB.out)); rintro e w9 ⟨rfl, hi, hb, hk⟩; have n1_ := Aside0.mk (keepB BK.out hk NB.out); clear HD BK HB; have HB := Aside0.mk hb; have HD := Aside0.mk hi; have BK := n1_; clear n1_ hi hb hk))
            go_roundg m
            case measure => omega
            case rel => exact ⟨0, rfl, ⟨by have := HI.out; omega⟩, ⟨BK.out⟩, ⟨HB.out⟩⟩
      · as_aux_lemma =>
          have E1 := Aside0.mk old_append
          have E2 := Aside0.mk old_sync
          have E3 := Aside0.mk old_rest
          have E4 := Aside0.mk crash_0
          have E5 := Aside0.mk off_append
          have E6 := Aside0.mk off_sync
          have E7 := Aside0.mk off_crash
          have E8 := Aside0.mk goes_0
          have E9 := Aside0.mk swap_0
          have E10 := Aside0.mk last_0
          have hext := ext_0
          have hsz_ : (⟨#[111, 108, 100, 101, 114, 114, 101, 115, 116, 46]⟩ : ByteArray).size = 10 := rfl
          have hw1_ : IntKind.i64.wrap (5 + 0) = 5 := rfl
          have hw2_ : IntKind.i64.wrap 5 = 5 := rfl
          go_wp2_with (first
            | (go_at_call 9; (with_reducible refine (new_ok ⟨#[111, 108, 100]⟩ (by decide) w _ HB.out).mono ?_); rintro e w4 ⟨gd, rfl, hi, hb, hb2, hgd⟩; have HD := Aside0.mk hi; have NB : Aside0 (gb ≠ gd) := ⟨by have h1_ := blk_lt BK.out; omega⟩; have n1_ := Aside0.mk (blk_below BK.out hb2); clear HB BK; have HB := Aside0.mk hb; have BK := n1_; clear n1_ hi hb hb2 hgd)
            | (go_at_call 10; (with_reducible refine (thresherlaw17_num.calls 0 0 _ rfl).mono ?_); rintro e w9 ⟨rfl, hd⟩; have hb := hd.below; clear hd; have n1_ := Aside0.mk (blk_below (show _ from by repeat (first | exact BK.out | refine blk_drewN ?_ _ | refine blk_drew ?_)) hb); have n0_ := Aside0.mk (IsS54.below (show IsS54 w _ gd _ _ _ _ from HD.out) hb); have n4_ := Aside0.mk (below_step (by repeat (first | (with_reducible first | exact HB.out | apply below_alloc | apply pw_below_drewN | apply below_drew1) | exact HB.out)) hb); clear HD BK HB; have HB := n4_; have HD := n0_; have BK := n1_; clear n0_ n1_ n4_ hb)
            | (go_at_call 11; (with_reducible refine (disk_Disk_Append.calls gd _ _ _ _ ⟨#[101, 114]⟩ _ _ _ _ _ w _ ?s1 ?s2 E1.out).mono ?_); (case s1 => exact HD.out); (case s2 => repeat (first | (with_reducible first | exact HB.out | apply below_alloc | apply pw_below_drewN | apply below_drew1) | exact HB.out)); rintro e w9 ⟨rfl, hi, hb, hk⟩; have n1_ := Aside0.mk (keepB BK.out hk NB.out); clear HD BK HB; have HB := Aside0.mk hb; have HD := Aside0.mk hi; have BK := n1_; clear n1_ hi hb hk)
            | (go_at_call 12; (with_reducible refine (disk_Disk_Sync.calls gd _ _ _ _ _ _ _ _ _ w _ ?s1 ?s2 E2.out).mono ?_); (case s1 => exact HD.out); (case s2 => repeat (first | (with_reducible first | exact HB.out | apply below_alloc | apply pw_below_drewN | apply below_drew1) | exact HB.out)); rintro e w9 ⟨rfl, hi, hb, hk⟩; have n1_ := Aside0.mk (keepB BK.out hk NB.out); clear HD BK HB; have HB := Aside0.mk hb; have HD := Aside0.mk hi; have BK := n1_; clear n1_ hi hb hk)
            | (go_at_call 11; (with_reducible refine (disk_Disk_Append.calls gd _ _ _ _ ⟨#[114, 101, 115, 116, 46]⟩ _ _ _ _ _ w _ ?s1 ?s2 E3.out).mono ?_); (case s1 => exact HD.out); (case s2 => repeat (first | (with_reducible first | exact HB.out | apply below_alloc | apply pw_below_drewN | apply below_drew1) | exact HB.out)); rintro e w9 ⟨rfl, hi, hb, hk⟩; have n1_ := Aside0.mk (keepB BK.out hk NB.out); clear HD BK HB; have HB := Aside0.mk hb; have HD := Aside0.mk hi; have BK := n1_; clear n1_ hi hb hk))
          go_region_held3 (fun _ => True) (trivial) (first
              | (go_at_call 13; (with_reducible refine (disk_Disk_Crash.calls gd _ _ _ _ 0 _ _ _ _ _ w _ ?s1 ?s2 E4.out).mono ?_); (case s1 => exact HD.out); (case s2 => repeat (first | (with_reducible first | exact HB.out | apply below_alloc | apply pw_below_drewN | apply below_drew1) | exact HB.out)); rintro e w9 ⟨rfl, hi, hb, hk⟩; have n1_ := Aside0.mk (keepB BK.out hk NB.out); clear HD BK HB; have HB := Aside0.mk hb; have HD := Aside0.mk hi; have BK := n1_; clear n1_ hi hb hk)
              | (go_at_call 11; (with_reducible refine (disk_Disk_Append.calls gd _ _ _ _ ⟨#[120]⟩ _ _ _ _ _ w _ ?s1 ?s2 E5.out).mono ?_); (case s1 => exact HD.out); (case s2 => repeat (first | (with_reducible first | exact HB.out | apply below_alloc | apply pw_below_drewN | apply below_drew1) | exact HB.out)); rintro e w9 ⟨rfl, hi, hb, hk⟩; have n1_ := Aside0.mk (keepB BK.out hk NB.out); clear HD BK HB; have HB := Aside0.mk hb; have HD := Aside0.mk hi; have BK := n1_; clear n1_ hi hb hk)
              | (go_at_call 12; (with_reducible refine (disk_Disk_Sync.calls gd _ _ _ _ _ _ _ _ _ w _ ?s1 ?s2 E6.out).mono ?_); (case s1 => exact HD.out); (case s2 => repeat (first | (with_reducible first | exact HB.out | apply below_alloc | apply pw_below_drewN | apply below_drew1) | exact HB.out)); rintro e w9 ⟨rfl, hi, hb, hk⟩; have n1_ := Aside0.mk (keepB BK.out hk NB.out); clear HD BK HB; have HB := Aside0.mk hb; have HD := Aside0.mk hi; have BK := n1_; clear n1_ hi hb hk)
              | (go_at_call 10; (with_reducible refine (thresherlaw17_num.calls 12 12 _ rfl).mono ?_); rintro e w9 ⟨rfl, hd⟩; have hb := hd.below; clear hd; have n1_ := Aside0.mk (blk_below (show _ from by repeat (first | exact BK.out | refine blk_drewN ?_ _ | refine blk_drew ?_)) hb); have n0_ := Aside0.mk (IsS54.below (show IsS54 w _ gd _ _ _ _ from HD.out) hb); have n4_ := Aside0.mk (below_step (by repeat (first | (with_reducible first | exact HB.out | apply below_alloc | apply pw_below_drewN | apply below_drew1) | exact HB.out)) hb); clear HD BK HB; have HB := n4_; have HD := n0_; have BK := n1_; clear n0_ n1_ n4_ hb)
              | (go_at_call 13; (with_reducible refine (disk_Disk_Crash.calls gd _ _ _ _ 0 _ _ _ _ _ w _ ?s1 ?s2 E7.out).mono ?_); (case s1 => exact HD.out); (case s2 => repeat (first | (with_reducible first | exact HB.out | apply below_alloc | apply pw_below_drewN | apply below_drew1) | exact HB.out)); rintro e w9 ⟨rfl, hi, hb, hk⟩; have n1_ := Aside0.mk (keepB BK.out hk NB.out); clear HD BK HB; have HB := Aside0.mk hb; have HD := Aside0.mk hi; have BK := n1_; clear n1_ hi hb hk))
          all_goals
            go_wp2_with (first
              | (go_at_call 9; (with_reducible refine (new_ok ⟨#[97]⟩ (by decide) w _ HB.out).mono ?_); rintro e w4 ⟨gd, rfl, hi, hb, hb2, hgd⟩; clear HD NB; have HD := Aside0.mk hi; have NB : Aside0 (gb ≠ gd) := ⟨by have h1_ := blk_lt BK.out; omega⟩; have n1_ := Aside0.mk (blk_below BK.out hb2); clear HB BK; have HB := Aside0.mk hb; have BK := n1_; clear n1_ hi hb hb2 hgd)
              | (go_at_call 10; (with_reducible refine (thresherlaw17_num.calls 0 0 _ rfl).mono ?_); rintro e w9 ⟨rfl, hd⟩; have hb := hd.below; clear hd; have n1_ := Aside0.mk (blk_below (show _ from by repeat (first | exact BK.out | refine blk_drewN ?_ _ | refine blk_drew ?_)) hb); have n0_ := Aside0.mk (IsS54.below (show IsS54 w _ gd _ _ _ _ from HD.out) hb); have n4_ := Aside0.mk (below_step (by repeat (first | (with_reducible first | exact HB.out | apply below_alloc | apply pw_below_drewN | apply below_drew1) | exact HB.out)) hb); clear HD BK HB; have HB := n4_; have HD := n0_; have BK := n1_; clear n0_ n1_ n4_ hb)
              | (go_at_call 14; (with_reducible refine (disk_Disk_Off.calls gd _ _ _ _ 0 _ _ _ _ w _ ?s1 ?s2 E8.out).mono ?_); (case s1 => exact HD.out); (case s2 => repeat (first | (with_reducible first | exact HB.out | apply below_alloc | apply pw_below_drewN | apply below_drew1) | exact HB.out)); rintro e w9 ⟨rfl, hi, hb, hk⟩; have n1_ := Aside0.mk (keepB BK.out hk NB.out); clear HD BK HB; have HB := Aside0.mk hb; have HD := Aside0.mk hi; have BK := n1_; clear n1_ hi hb hk)
              | (go_at_call 15; (with_reducible refine (disk_Disk_Swap.calls gd _ _ _ _ ⟨#[98, 99]⟩ _ _ _ _ _ w _ ?s1 ?s2 E9.out).mono ?_); (case s1 => exact HD.out); (case s2 => repeat (first | (with_reducible first | exact HB.out | apply below_alloc | apply pw_below_drewN | apply below_drew1) | exact HB.out)); rintro e w9 ⟨rfl, hi, hb, hk⟩; have n1_ := Aside0.mk (keepB BK.out hk NB.out); clear HD BK HB; have HB := Aside0.mk hb; have HD := Aside0.mk hi; have BK := n1_; clear n1_ hi hb hk)
              | (go_at_call 10; (with_reducible refine (thresherlaw17_num.calls 12 12 _ rfl).mono ?_); rintro e w9 ⟨rfl, hd⟩; have hb := hd.below; clear hd; have n1_ := Aside0.mk (blk_below (show _ from by repeat (first | exact BK.out | refine blk_drewN ?_ _ | refine blk_drew ?_)) hb); have n0_ := Aside0.mk (IsS54.below (show IsS54 w _ gd _ _ _ _ from HD.out) hb); have n4_ := Aside0.mk (below_step (by repeat (first | (with_reducible first | exact HB.out | apply below_alloc | apply pw_below_drewN | apply below_drew1) | exact HB.out)) hb); clear HD BK HB; have HB := n4_; have HD := n0_; have BK := n1_; clear n0_ n1_ n4_ hb)
              | (go_at_call 13; (with_reducible refine (disk_Disk_Crash.calls gd _ _ _ _ 9 _ _ _ _ _ w _ ?s1 ?s2 E10.out).mono ?_); (case s1 => exact HD.out); (case s2 => repeat (first | (with_reducible first | exact HB.out | apply below_alloc | apply pw_below_drewN | apply below_drew1) | exact HB.out)); rintro e w9 ⟨rfl, hi, hb, hk⟩; have n1_ := Aside0.mk (keepB BK.out hk NB.out); clear HD BK HB; have HB := Aside0.mk hb; have HD := Aside0.mk hi; have BK := n1_; clear n1_ hi hb hk))
            go_roundg m
            case measure => omega
            case rel => exact ⟨1, rfl, ⟨by have := HI.out; omega⟩, ⟨BK.out⟩, ⟨HB.out⟩⟩
      · as_aux_lemma =>
          have E1 := Aside0.mk old_append
          have E2 := Aside0.mk old_sync
          have E3 := Aside0.mk old_rest
          have E4 := Aside0.mk crash_1
          have E5 := Aside0.mk off_append
          have E6 := Aside0.mk off_sync
          have E7 := Aside0.mk off_crash
          have E8 := Aside0.mk goes_1
          have E9 := Aside0.mk swap_1
          have E10 := Aside0.mk last_1
          have hext := ext_1
          have hsz_ : (⟨#[111, 108, 100, 101, 114, 114, 101, 115, 116, 46]⟩ : ByteArray).size = 10 := rfl
          have hw1_ : IntKind.i64.wrap (5 + 1) = 6 := rfl
          have hw2_ : IntKind.i64.wrap 6 = 6 := rfl
          go_wp2_with (first
            | (go_at_call 9; (with_reducible refine (new_ok ⟨#[111, 108, 100]⟩ (by decide) w _ HB.out).mono ?_); rintro e w4 ⟨gd, rfl, hi, hb, hb2, hgd⟩; have HD := Aside0.mk hi; have NB : Aside0 (gb ≠ gd) := ⟨by have h1_ := blk_lt BK.out; omega⟩; have n1_ := Aside0.mk (blk_below BK.out hb2); clear HB BK; have HB := Aside0.mk hb; have BK := n1_; clear n1_ hi hb hb2 hgd)
            | (go_at_call 10; (with_reducible refine (thresherlaw17_num.calls 0 0 _ rfl).mono ?_); rintro e w9 ⟨rfl, hd⟩; have hb := hd.below; clear hd; have n1_ := Aside0.mk (blk_below (show _ from by repeat (first | exact BK.out | refine blk_drewN ?_ _ | refine blk_drew ?_)) hb); have n0_ := Aside0.mk (IsS54.below (show IsS54 w _ gd _ _ _ _ from HD.out) hb); have n4_ := Aside0.mk (below_step (by repeat (first | (with_reducible first | exact HB.out | apply below_alloc | apply pw_below_drewN | apply below_drew1) | exact HB.out)) hb); clear HD BK HB; have HB := n4_; have HD := n0_; have BK := n1_; clear n0_ n1_ n4_ hb)
            | (go_at_call 11; (with_reducible refine (disk_Disk_Append.calls gd _ _ _ _ ⟨#[101, 114]⟩ _ _ _ _ _ w _ ?s1 ?s2 E1.out).mono ?_); (case s1 => exact HD.out); (case s2 => repeat (first | (with_reducible first | exact HB.out | apply below_alloc | apply pw_below_drewN | apply below_drew1) | exact HB.out)); rintro e w9 ⟨rfl, hi, hb, hk⟩; have n1_ := Aside0.mk (keepB BK.out hk NB.out); clear HD BK HB; have HB := Aside0.mk hb; have HD := Aside0.mk hi; have BK := n1_; clear n1_ hi hb hk)
            | (go_at_call 12; (with_reducible refine (disk_Disk_Sync.calls gd _ _ _ _ _ _ _ _ _ w _ ?s1 ?s2 E2.out).mono ?_); (case s1 => exact HD.out); (case s2 => repeat (first | (with_reducible first | exact HB.out | apply below_alloc | apply pw_below_drewN | apply below_drew1) | exact HB.out)); rintro e w9 ⟨rfl, hi, hb, hk⟩; have n1_ := Aside0.mk (keepB BK.out hk NB.out); clear HD BK HB; have HB := Aside0.mk hb; have HD := Aside0.mk hi; have BK := n1_; clear n1_ hi hb hk)
            | (go_at_call 11; (with_reducible refine (disk_Disk_Append.calls gd _ _ _ _ ⟨#[114, 101, 115, 116, 46]⟩ _ _ _ _ _ w _ ?s1 ?s2 E3.out).mono ?_); (case s1 => exact HD.out); (case s2 => repeat (first | (with_reducible first | exact HB.out | apply below_alloc | apply pw_below_drewN | apply below_drew1) | exact HB.out)); rintro e w9 ⟨rfl, hi, hb, hk⟩; have n1_ := Aside0.mk (keepB BK.out hk NB.out); clear HD BK HB; have HB := Aside0.mk hb; have HD := Aside0.mk hi; have BK := n1_; clear n1_ hi hb hk))
          go_region_held3 (fun _ => True) (trivial) (first
              | (go_at_call 13; (with_reducible refine (disk_Disk_Crash.calls gd _ _ _ _ 1 _ _ _ _ _ w _ ?s1 ?s2 E4.out).mono ?_); (case s1 => exact HD.out); (case s2 => repeat (first | (with_reducible first | exact HB.out | apply below_alloc | apply pw_below_drewN | apply below_drew1) | exact HB.out)); rintro e w9 ⟨rfl, hi, hb, hk⟩; have n1_ := Aside0.mk (keepB BK.out hk NB.out); clear HD BK HB; have HB := Aside0.mk hb; have HD := Aside0.mk hi; have BK := n1_; clear n1_ hi hb hk)
              | (go_at_call 11; (with_reducible refine (disk_Disk_Append.calls gd _ _ _ _ ⟨#[120]⟩ _ _ _ _ _ w _ ?s1 ?s2 E5.out).mono ?_); (case s1 => exact HD.out); (case s2 => repeat (first | (with_reducible first | exact HB.out | apply below_alloc | apply pw_below_drewN | apply below_drew1) | exact HB.out)); rintro e w9 ⟨rfl, hi, hb, hk⟩; have n1_ := Aside0.mk (keepB BK.out hk NB.out); clear HD BK HB; have HB := Aside0.mk hb; have HD := Aside0.mk hi; have BK := n1_; clear n1_ hi hb hk)
              | (go_at_call 12; (with_reducible refine (disk_Disk_Sync.calls gd _ _ _ _ _ _ _ _ _ w _ ?s1 ?s2 E6.out).mono ?_); (case s1 => exact HD.out); (case s2 => repeat (first | (with_reducible first | exact HB.out | apply below_alloc | apply pw_below_drewN | apply below_drew1) | exact HB.out)); rintro e w9 ⟨rfl, hi, hb, hk⟩; have n1_ := Aside0.mk (keepB BK.out hk NB.out); clear HD BK HB; have HB := Aside0.mk hb; have HD := Aside0.mk hi; have BK := n1_; clear n1_ hi hb hk)
              | (go_at_call 10; (with_reducible refine (thresherlaw17_num.calls 12 12 _ rfl).mono ?_); rintro e w9 ⟨rfl, hd⟩; have hb := hd.below; clear hd; have n1_ := Aside0.mk (blk_below (show _ from by repeat (first | exact BK.out | refine blk_drewN ?_ _ | refine blk_drew ?_)) hb); have n0_ := Aside0.mk (IsS54.below (show IsS54 w _ gd _ _ _ _ from HD.out) hb); have n4_ := Aside0.mk (below_step (by repeat (first | (with_reducible first | exact HB.out | apply below_alloc | apply pw_below_drewN | apply below_drew1) | exact HB.out)) hb); clear HD BK HB; have HB := n4_; have HD := n0_; have BK := n1_; clear n0_ n1_ n4_ hb)
              | (go_at_call 13; (with_reducible refine (disk_Disk_Crash.calls gd _ _ _ _ 0 _ _ _ _ _ w _ ?s1 ?s2 E7.out).mono ?_); (case s1 => exact HD.out); (case s2 => repeat (first | (with_reducible first | exact HB.out | apply below_alloc | apply pw_below_drewN | apply below_drew1) | exact HB.out)); rintro e w9 ⟨rfl, hi, hb, hk⟩; have n1_ := Aside0.mk (keepB BK.out hk NB.out); clear HD BK HB; have HB := Aside0.mk hb; have HD := Aside0.mk hi; have BK := n1_; clear n1_ hi hb hk))
          all_goals
            go_wp2_with (first
              | (go_at_call 9; (with_reducible refine (new_ok ⟨#[97]⟩ (by decide) w _ HB.out).mono ?_); rintro e w4 ⟨gd, rfl, hi, hb, hb2, hgd⟩; clear HD NB; have HD := Aside0.mk hi; have NB : Aside0 (gb ≠ gd) := ⟨by have h1_ := blk_lt BK.out; omega⟩; have n1_ := Aside0.mk (blk_below BK.out hb2); clear HB BK; have HB := Aside0.mk hb; have BK := n1_; clear n1_ hi hb hb2 hgd)
              | (go_at_call 10; (with_reducible refine (thresherlaw17_num.calls 0 0 _ rfl).mono ?_); rintro e w9 ⟨rfl, hd⟩; have hb := hd.below; clear hd; have n1_ := Aside0.mk (blk_below (show _ from by repeat (first | exact BK.out | refine blk_drewN ?_ _ | refine blk_drew ?_)) hb); have n0_ := Aside0.mk (IsS54.below (show IsS54 w _ gd _ _ _ _ from HD.out) hb); have n4_ := Aside0.mk (below_step (by repeat (first | (with_reducible first | exact HB.out | apply below_alloc | apply pw_below_drewN | apply below_drew1) | exact HB.out)) hb); clear HD BK HB; have HB := n4_; have HD := n0_; have BK := n1_; clear n0_ n1_ n4_ hb)
              | (go_at_call 14; (with_reducible refine (disk_Disk_Off.calls gd _ _ _ _ 1 _ _ _ _ w _ ?s1 ?s2 E8.out).mono ?_); (case s1 => exact HD.out); (case s2 => repeat (first | (with_reducible first | exact HB.out | apply below_alloc | apply pw_below_drewN | apply below_drew1) | exact HB.out)); rintro e w9 ⟨rfl, hi, hb, hk⟩; have n1_ := Aside0.mk (keepB BK.out hk NB.out); clear HD BK HB; have HB := Aside0.mk hb; have HD := Aside0.mk hi; have BK := n1_; clear n1_ hi hb hk)
              | (go_at_call 15; (with_reducible refine (disk_Disk_Swap.calls gd _ _ _ _ ⟨#[98, 99]⟩ _ _ _ _ _ w _ ?s1 ?s2 E9.out).mono ?_); (case s1 => exact HD.out); (case s2 => repeat (first | (with_reducible first | exact HB.out | apply below_alloc | apply pw_below_drewN | apply below_drew1) | exact HB.out)); rintro e w9 ⟨rfl, hi, hb, hk⟩; have n1_ := Aside0.mk (keepB BK.out hk NB.out); clear HD BK HB; have HB := Aside0.mk hb; have HD := Aside0.mk hi; have BK := n1_; clear n1_ hi hb hk)
              | (go_at_call 10; (with_reducible refine (thresherlaw17_num.calls 12 12 _ rfl).mono ?_); rintro e w9 ⟨rfl, hd⟩; have hb := hd.below; clear hd; have n1_ := Aside0.mk (blk_below (show _ from by repeat (first | exact BK.out | refine blk_drewN ?_ _ | refine blk_drew ?_)) hb); have n0_ := Aside0.mk (IsS54.below (show IsS54 w _ gd _ _ _ _ from HD.out) hb); have n4_ := Aside0.mk (below_step (by repeat (first | (with_reducible first | exact HB.out | apply below_alloc | apply pw_below_drewN | apply below_drew1) | exact HB.out)) hb); clear HD BK HB; have HB := n4_; have HD := n0_; have BK := n1_; clear n0_ n1_ n4_ hb)
              | (go_at_call 13; (with_reducible refine (disk_Disk_Crash.calls gd _ _ _ _ 9 _ _ _ _ _ w _ ?s1 ?s2 E10.out).mono ?_); (case s1 => exact HD.out); (case s2 => repeat (first | (with_reducible first | exact HB.out | apply below_alloc | apply pw_below_drewN | apply below_drew1) | exact HB.out)); rintro e w9 ⟨rfl, hi, hb, hk⟩; have n1_ := Aside0.mk (keepB BK.out hk NB.out); clear HD BK HB; have HB := Aside0.mk hb; have HD := Aside0.mk hi; have BK := n1_; clear n1_ hi hb hk))
            go_roundg m
            case measure => omega
            case rel => exact ⟨2, rfl, ⟨by have := HI.out; omega⟩, ⟨BK.out⟩, ⟨HB.out⟩⟩
      · as_aux_lemma =>
          have E1 := Aside0.mk old_append
          have E2 := Aside0.mk old_sync
          have E3 := Aside0.mk old_rest
          have E4 := Aside0.mk crash_2
          have E5 := Aside0.mk off_append
          have E6 := Aside0.mk off_sync
          have E7 := Aside0.mk off_crash
          have E8 := Aside0.mk goes_2
          have E9 := Aside0.mk swap_2
          have E10 := Aside0.mk last_2
          have hext := ext_2
          have hsz_ : (⟨#[111, 108, 100, 101, 114, 114, 101, 115, 116, 46]⟩ : ByteArray).size = 10 := rfl
          have hw1_ : IntKind.i64.wrap (5 + 2) = 7 := rfl
          have hw2_ : IntKind.i64.wrap 7 = 7 := rfl
          go_wp2_with (first
            | (go_at_call 9; (with_reducible refine (new_ok ⟨#[111, 108, 100]⟩ (by decide) w _ HB.out).mono ?_); rintro e w4 ⟨gd, rfl, hi, hb, hb2, hgd⟩; have HD := Aside0.mk hi; have NB : Aside0 (gb ≠ gd) := ⟨by have h1_ := blk_lt BK.out; omega⟩; have n1_ := Aside0.mk (blk_below BK.out hb2); clear HB BK; have HB := Aside0.mk hb; have BK := n1_; clear n1_ hi hb hb2 hgd)
            | (go_at_call 10; (with_reducible refine (thresherlaw17_num.calls 0 0 _ rfl).mono ?_); rintro e w9 ⟨rfl, hd⟩; have hb := hd.below; clear hd; have n1_ := Aside0.mk (blk_below (show _ from by repeat (first | exact BK.out | refine blk_drewN ?_ _ | refine blk_drew ?_)) hb); have n0_ := Aside0.mk (IsS54.below (show IsS54 w _ gd _ _ _ _ from HD.out) hb); have n4_ := Aside0.mk (below_step (by repeat (first | (with_reducible first | exact HB.out | apply below_alloc | apply pw_below_drewN | apply below_drew1) | exact HB.out)) hb); clear HD BK HB; have HB := n4_; have HD := n0_; have BK := n1_; clear n0_ n1_ n4_ hb)
            | (go_at_call 11; (with_reducible refine (disk_Disk_Append.calls gd _ _ _ _ ⟨#[101, 114]⟩ _ _ _ _ _ w _ ?s1 ?s2 E1.out).mono ?_); (case s1 => exact HD.out); (case s2 => repeat (first | (with_reducible first | exact HB.out | apply below_alloc | apply pw_below_drewN | apply below_drew1) | exact HB.out)); rintro e w9 ⟨rfl, hi, hb, hk⟩; have n1_ := Aside0.mk (keepB BK.out hk NB.out); clear HD BK HB; have HB := Aside0.mk hb; have HD := Aside0.mk hi; have BK := n1_; clear n1_ hi hb hk)
            | (go_at_call 12; (with_reducible refine (disk_Disk_Sync.calls gd _ _ _ _ _ _ _ _ _ w _ ?s1 ?s2 E2.out).mono ?_); (case s1 => exact HD.out); (case s2 => repeat (first | (with_reducible first | exact HB.out | apply below_alloc | apply pw_below_drewN | apply below_drew1) | exact HB.out)); rintro e w9 ⟨rfl, hi, hb, hk⟩; have n1_ := Aside0.mk (keepB BK.out hk NB.out); clear HD BK HB; have HB := Aside0.mk hb; have HD := Aside0.mk hi; have BK := n1_; clear n1_ hi hb hk)
            | (go_at_call 11; (with_reducible refine (disk_Disk_Append.calls gd _ _ _ _ ⟨#[114, 101, 115, 116, 46]⟩ _ _ _ _ _ w _ ?s1 ?s2 E3.out).mono ?_); (case s1 => exact HD.out); (case s2 => repeat (first | (with_reducible first | exact HB.out | apply below_alloc | apply pw_below_drewN | apply below_drew1) | exact HB.out)); rintro e w9 ⟨rfl, hi, hb, hk⟩; have n1_ := Aside0.mk (keepB BK.out hk NB.out); clear HD BK HB; have HB := Aside0.mk hb; have HD := Aside0.mk hi; have BK := n1_; clear n1_ hi hb hk))
          go_region_held3 (fun _ => True) (trivial) (first
              | (go_at_call 13; (with_reducible refine (disk_Disk_Crash.calls gd _ _ _ _ 2 _ _ _ _ _ w _ ?s1 ?s2 E4.out).mono ?_); (case s1 => exact HD.out); (case s2 => repeat (first | (with_reducible first | exact HB.out | apply below_alloc | apply pw_below_drewN | apply below_drew1) | exact HB.out)); rintro e w9 ⟨rfl, hi, hb, hk⟩; have n1_ := Aside0.mk (keepB BK.out hk NB.out); clear HD BK HB; have HB := Aside0.mk hb; have HD := Aside0.mk hi; have BK := n1_; clear n1_ hi hb hk)
              | (go_at_call 11; (with_reducible refine (disk_Disk_Append.calls gd _ _ _ _ ⟨#[120]⟩ _ _ _ _ _ w _ ?s1 ?s2 E5.out).mono ?_); (case s1 => exact HD.out); (case s2 => repeat (first | (with_reducible first | exact HB.out | apply below_alloc | apply pw_below_drewN | apply below_drew1) | exact HB.out)); rintro e w9 ⟨rfl, hi, hb, hk⟩; have n1_ := Aside0.mk (keepB BK.out hk NB.out); clear HD BK HB; have HB := Aside0.mk hb; have HD := Aside0.mk hi; have BK := n1_; clear n1_ hi hb hk)
              | (go_at_call 12; (with_reducible refine (disk_Disk_Sync.calls gd _ _ _ _ _ _ _ _ _ w _ ?s1 ?s2 E6.out).mono ?_); (case s1 => exact HD.out); (case s2 => repeat (first | (with_reducible first | exact HB.out | apply below_alloc | apply pw_below_drewN | apply below_drew1) | exact HB.out)); rintro e w9 ⟨rfl, hi, hb, hk⟩; have n1_ := Aside0.mk (keepB BK.out hk NB.out); clear HD BK HB; have HB := Aside0.mk hb; have HD := Aside0.mk hi; have BK := n1_; clear n1_ hi hb hk)
              | (go_at_call 10; (with_reducible refine (thresherlaw17_num.calls 12 12 _ rfl).mono ?_); rintro e w9 ⟨rfl, hd⟩; have hb := hd.below; clear hd; have n1_ := Aside0.mk (blk_below (show _ from by repeat (first | exact BK.out | refine blk_drewN ?_ _ | refine blk_drew ?_)) hb); have n0_ := Aside0.mk (IsS54.below (show IsS54 w _ gd _ _ _ _ from HD.out) hb); have n4_ := Aside0.mk (below_step (by repeat (first | (with_reducible first | exact HB.out | apply below_alloc | apply pw_below_drewN | apply below_drew1) | exact HB.out)) hb); clear HD BK HB; have HB := n4_; have HD := n0_; have BK := n1_; clear n0_ n1_ n4_ hb)
              | (go_at_call 13; (with_reducible refine (disk_Disk_Crash.calls gd _ _ _ _ 0 _ _ _ _ _ w _ ?s1 ?s2 E7.out).mono ?_); (case s1 => exact HD.out); (case s2 => repeat (first | (with_reducible first | exact HB.out | apply below_alloc | apply pw_below_drewN | apply below_drew1) | exact HB.out)); rintro e w9 ⟨rfl, hi, hb, hk⟩; have n1_ := Aside0.mk (keepB BK.out hk NB.out); clear HD BK HB; have HB := Aside0.mk hb; have HD := Aside0.mk hi; have BK := n1_; clear n1_ hi hb hk))
          all_goals
            go_wp2_with (first
              | (go_at_call 9; (with_reducible refine (new_ok ⟨#[97]⟩ (by decide) w _ HB.out).mono ?_); rintro e w4 ⟨gd, rfl, hi, hb, hb2, hgd⟩; clear HD NB; have HD := Aside0.mk hi; have NB : Aside0 (gb ≠ gd) := ⟨by have h1_ := blk_lt BK.out; omega⟩; have n1_ := Aside0.mk (blk_below BK.out hb2); clear HB BK; have HB := Aside0.mk hb; have BK := n1_; clear n1_ hi hb hb2 hgd)
              | (go_at_call 10; (with_reducible refine (thresherlaw17_num.calls 0 0 _ rfl).mono ?_); rintro e w9 ⟨rfl, hd⟩; have hb := hd.below; clear hd; have n1_ := Aside0.mk (blk_below (show _ from by repeat (first | exact BK.out | refine blk_drewN ?_ _ | refine blk_drew ?_)) hb); have n0_ := Aside0.mk (IsS54.below (show IsS54 w _ gd _ _ _ _ from HD.out) hb); have n4_ := Aside0.mk (below_step (by repeat (first | (with_reducible first | exact HB.out | apply below_alloc | apply pw_below_drewN | apply below_drew1) | exact HB.out)) hb); clear HD BK HB; have HB := n4_; have HD := n0_; have BK := n1_; clear n0_ n1_ n4_ hb)
              | (go_at_call 14; (with_reducible refine (disk_Disk_Off.calls gd _ _ _ _ 2 _ _ _ _ w _ ?s1 ?s2 E8.out).mono ?_); (case s1 => exact HD.out); (case s2 => repeat (first | (with_reducible first | exact HB.out | apply below_alloc | apply pw_below_drewN | apply below_drew1) | exact HB.out)); rintro e w9 ⟨rfl, hi, hb, hk⟩; have n1_ := Aside0.mk (keepB BK.out hk NB.out); clear HD BK HB; have HB := Aside0.mk hb; have HD := Aside0.mk hi; have BK := n1_; clear n1_ hi hb hk)
              | (go_at_call 15; (with_reducible refine (disk_Disk_Swap.calls gd _ _ _ _ ⟨#[98, 99]⟩ _ _ _ _ _ w _ ?s1 ?s2 E9.out).mono ?_); (case s1 => exact HD.out); (case s2 => repeat (first | (with_reducible first | exact HB.out | apply below_alloc | apply pw_below_drewN | apply below_drew1) | exact HB.out)); rintro e w9 ⟨rfl, hi, hb, hk⟩; have n1_ := Aside0.mk (keepB BK.out hk NB.out); clear HD BK HB; have HB := Aside0.mk hb; have HD := Aside0.mk hi; have BK := n1_; clear n1_ hi hb hk)
              | (go_at_call 10; (with_reducible refine (thresherlaw17_num.calls 0 0 _ rfl).mono ?_); rintro e w9 ⟨rfl, hd⟩; have hb := hd.below; clear hd; have n1_ := Aside0.mk (blk_below (show _ from by repeat (first | exact BK.out | refine blk_drewN ?_ _ | refine blk_drew ?_)) hb); have n0_ := Aside0.mk (IsS54.below (show IsS54 w _ gd _ _ _ _ from HD.out) hb); have n4_ := Aside0.mk (below_step (by repeat (first | (with_reducible first | exact HB.out | apply below_alloc | apply pw_below_drewN | apply below_drew1) | exact HB.out)) hb); clear HD BK HB; have HB := n4_; have HD := n0_; have BK := n1_; clear n0_ n1_ n4_ hb)
              | (go_at_call 13; (with_reducible refine (disk_Disk_Crash.calls gd _ _ _ _ 9 _ _ _ _ _ w _ ?s1 ?s2 E10.out).mono ?_); (case s1 => exact HD.out); (case s2 => repeat (first | (with_reducible first | exact HB.out | apply below_alloc | apply pw_below_drewN | apply below_drew1) | exact HB.out)); rintro e w9 ⟨rfl, hi, hb, hk⟩; have n1_ := Aside0.mk (keepB BK.out hk NB.out); clear HD BK HB; have HB := Aside0.mk hb; have HD := Aside0.mk hi; have BK := n1_; clear n1_ hi hb hk))
            go_roundg m
            case measure => omega
            case rel => exact ⟨3, rfl, ⟨by have := HI.out; omega⟩, ⟨BK.out⟩, ⟨HB.out⟩⟩
      · as_aux_lemma =>
          have E1 := Aside0.mk old_append
          have E2 := Aside0.mk old_sync
          have E3 := Aside0.mk old_rest
          have E4 := Aside0.mk crash_3
          have E5 := Aside0.mk off_append
          have E6 := Aside0.mk off_sync
          have E7 := Aside0.mk off_crash
          have E8 := Aside0.mk goes_3
          have E9 := Aside0.mk swap_3
          have E10 := Aside0.mk last_3
          have hext := ext_3
          have hsz_ : (⟨#[111, 108, 100, 101, 114, 114, 101, 115, 116, 46]⟩ : ByteArray).size = 10 := rfl
          have hw1_ : IntKind.i64.wrap (5 + 3) = 8 := rfl
          have hw2_ : IntKind.i64.wrap 8 = 8 := rfl
          go_wp2_with (first
            | (go_at_call 9; (with_reducible refine (new_ok ⟨#[111, 108, 100]⟩ (by decide) w _ HB.out).mono ?_); rintro e w4 ⟨gd, rfl, hi, hb, hb2, hgd⟩; have HD := Aside0.mk hi; have NB : Aside0 (gb ≠ gd) := ⟨by have h1_ := blk_lt BK.out; omega⟩; have n1_ := Aside0.mk (blk_below BK.out hb2); clear HB BK; have HB := Aside0.mk hb; have BK := n1_; clear n1_ hi hb hb2 hgd)
            | (go_at_call 10; (with_reducible refine (thresherlaw17_num.calls 0 0 _ rfl).mono ?_); rintro e w9 ⟨rfl, hd⟩; have hb := hd.below; clear hd; have n1_ := Aside0.mk (blk_below (show _ from by repeat (first | exact BK.out | refine blk_drewN ?_ _ | refine blk_drew ?_)) hb); have n0_ := Aside0.mk (IsS54.below (show IsS54 w _ gd _ _ _ _ from HD.out) hb); have n4_ := Aside0.mk (below_step (by repeat (first | (with_reducible first | exact HB.out | apply below_alloc | apply pw_below_drewN | apply below_drew1) | exact HB.out)) hb); clear HD BK HB; have HB := n4_; have HD := n0_; have BK := n1_; clear n0_ n1_ n4_ hb)
            | (go_at_call 11; (with_reducible refine (disk_Disk_Append.calls gd _ _ _ _ ⟨#[101, 114]⟩ _ _ _ _ _ w _ ?s1 ?s2 E1.out).mono ?_); (case s1 => exact HD.out); (case s2 => repeat (first | (with_reducible first | exact HB.out | apply below_alloc | apply pw_below_drewN | apply below_drew1) | exact HB.out)); rintro e w9 ⟨rfl, hi, hb, hk⟩; have n1_ := Aside0.mk (keepB BK.out hk NB.out); clear HD BK HB; have HB := Aside0.mk hb; have HD := Aside0.mk hi; have BK := n1_; clear n1_ hi hb hk)
            | (go_at_call 12; (with_reducible refine (disk_Disk_Sync.calls gd _ _ _ _ _ _ _ _ _ w _ ?s1 ?s2 E2.out).mono ?_); (case s1 => exact HD.out); (case s2 => repeat (first | (with_reducible first | exact HB.out | apply below_alloc | apply pw_below_drewN | apply below_drew1) | exact HB.out)); rintro e w9 ⟨rfl, hi, hb, hk⟩; have n1_ := Aside0.mk (keepB BK.out hk NB.out); clear HD BK HB; have HB := Aside0.mk hb; have HD := Aside0.mk hi; have BK := n1_; clear n1_ hi hb hk)
            | (go_at_call 11; (with_reducible refine (disk_Disk_Append.calls gd _ _ _ _ ⟨#[114, 101, 115, 116, 46]⟩ _ _ _ _ _ w _ ?s1 ?s2 E3.out).mono ?_); (case s1 => exact HD.out); (case s2 => repeat (first | (with_reducible first | exact HB.out | apply below_alloc | apply pw_below_drewN | apply below_drew1) | exact HB.out)); rintro e w9 ⟨rfl, hi, hb, hk⟩; have n1_ := Aside0.mk (keepB BK.out hk NB.out); clear HD BK HB; have HB := Aside0.mk hb; have HD := Aside0.mk hi; have BK := n1_; clear n1_ hi hb hk))
          go_region_held3 (fun _ => True) (trivial) (first
              | (go_at_call 13; (with_reducible refine (disk_Disk_Crash.calls gd _ _ _ _ 3 _ _ _ _ _ w _ ?s1 ?s2 E4.out).mono ?_); (case s1 => exact HD.out); (case s2 => repeat (first | (with_reducible first | exact HB.out | apply below_alloc | apply pw_below_drewN | apply below_drew1) | exact HB.out)); rintro e w9 ⟨rfl, hi, hb, hk⟩; have n1_ := Aside0.mk (keepB BK.out hk NB.out); clear HD BK HB; have HB := Aside0.mk hb; have HD := Aside0.mk hi; have BK := n1_; clear n1_ hi hb hk)
              | (go_at_call 11; (with_reducible refine (disk_Disk_Append.calls gd _ _ _ _ ⟨#[120]⟩ _ _ _ _ _ w _ ?s1 ?s2 E5.out).mono ?_); (case s1 => exact HD.out); (case s2 => repeat (first | (with_reducible first | exact HB.out | apply below_alloc | apply pw_below_drewN | apply below_drew1) | exact HB.out)); rintro e w9 ⟨rfl, hi, hb, hk⟩; have n1_ := Aside0.mk (keepB BK.out hk NB.out); clear HD BK HB; have HB := Aside0.mk hb; have HD := Aside0.mk hi; have BK := n1_; clear n1_ hi hb hk)
              | (go_at_call 12; (with_reducible refine (disk_Disk_Sync.calls gd _ _ _ _ _ _ _ _ _ w _ ?s1 ?s2 E6.out).mono ?_); (case s1 => exact HD.out); (case s2 => repeat (first | (with_reducible first | exact HB.out | apply below_alloc | apply pw_below_drewN | apply below_drew1) | exact HB.out)); rintro e w9 ⟨rfl, hi, hb, hk⟩; have n1_ := Aside0.mk (keepB BK.out hk NB.out); clear HD BK HB; have HB := Aside0.mk hb; have HD := Aside0.mk hi; have BK := n1_; clear n1_ hi hb hk)
              | (go_at_call 10; (with_reducible refine (thresherlaw17_num.calls 12 12 _ rfl).mono ?_); rintro e w9 ⟨rfl, hd⟩; have hb := hd.below; clear hd; have n1_ := Aside0.mk (blk_below (show _ from by repeat (first | exact BK.out | refine blk_drewN ?_ _ | refine blk_drew ?_)) hb); have n0_ := Aside0.mk (IsS54.below (show IsS54 w _ gd _ _ _ _ from HD.out) hb); have n4_ := Aside0.mk (below_step (by repeat (first | (with_reducible first | exact HB.out | apply below_alloc | apply pw_below_drewN | apply below_drew1) | exact HB.out)) hb); clear HD BK HB; have HB := n4_; have HD := n0_; have BK := n1_; clear n0_ n1_ n4_ hb)
              | (go_at_call 13; (with_reducible refine (disk_Disk_Crash.calls gd _ _ _ _ 0 _ _ _ _ _ w _ ?s1 ?s2 E7.out).mono ?_); (case s1 => exact HD.out); (case s2 => repeat (first | (with_reducible first | exact HB.out | apply below_alloc | apply pw_below_drewN | apply below_drew1) | exact HB.out)); rintro e w9 ⟨rfl, hi, hb, hk⟩; have n1_ := Aside0.mk (keepB BK.out hk NB.out); clear HD BK HB; have HB := Aside0.mk hb; have HD := Aside0.mk hi; have BK := n1_; clear n1_ hi hb hk))
          all_goals
            go_wp2_with (first
              | (go_at_call 9; (with_reducible refine (new_ok ⟨#[97]⟩ (by decide) w _ HB.out).mono ?_); rintro e w4 ⟨gd, rfl, hi, hb, hb2, hgd⟩; clear HD NB; have HD := Aside0.mk hi; have NB : Aside0 (gb ≠ gd) := ⟨by have h1_ := blk_lt BK.out; omega⟩; have n1_ := Aside0.mk (blk_below BK.out hb2); clear HB BK; have HB := Aside0.mk hb; have BK := n1_; clear n1_ hi hb hb2 hgd)
              | (go_at_call 10; (with_reducible refine (thresherlaw17_num.calls 0 0 _ rfl).mono ?_); rintro e w9 ⟨rfl, hd⟩; have hb := hd.below; clear hd; have n1_ := Aside0.mk (blk_below (show _ from by repeat (first | exact BK.out | refine blk_drewN ?_ _ | refine blk_drew ?_)) hb); have n0_ := Aside0.mk (IsS54.below (show IsS54 w _ gd _ _ _ _ from HD.out) hb); have n4_ := Aside0.mk (below_step (by repeat (first | (with_reducible first | exact HB.out | apply below_alloc | apply pw_below_drewN | apply below_drew1) | exact HB.out)) hb); clear HD BK HB; have HB := n4_; have HD := n0_; have BK := n1_; clear n0_ n1_ n4_ hb)
              | (go_at_call 14; (with_reducible refine (disk_Disk_Off.calls gd _ _ _ _ 3 _ _ _ _ w _ ?s1 ?s2 E8.out).mono ?_); (case s1 => exact HD.out); (case s2 => repeat (first | (with_reducible first | exact HB.out | apply below_alloc | apply pw_below_drewN | apply below_drew1) | exact HB.out)); rintro e w9 ⟨rfl, hi, hb, hk⟩; have n1_ := Aside0.mk (keepB BK.out hk NB.out); clear HD BK HB; have HB := Aside0.mk hb; have HD := Aside0.mk hi; have BK := n1_; clear n1_ hi hb hk)
              | (go_at_call 15; (with_reducible refine (disk_Disk_Swap.calls gd _ _ _ _ ⟨#[98, 99]⟩ _ _ _ _ _ w _ ?s1 ?s2 E9.out).mono ?_); (case s1 => exact HD.out); (case s2 => repeat (first | (with_reducible first | exact HB.out | apply below_alloc | apply pw_below_drewN | apply below_drew1) | exact HB.out)); rintro e w9 ⟨rfl, hi, hb, hk⟩; have n1_ := Aside0.mk (keepB BK.out hk NB.out); clear HD BK HB; have HB := Aside0.mk hb; have HD := Aside0.mk hi; have BK := n1_; clear n1_ hi hb hk)
              | (go_at_call 10; (with_reducible refine (thresherlaw17_num.calls 0 0 _ rfl).mono ?_); rintro e w9 ⟨rfl, hd⟩; have hb := hd.below; clear hd; have n1_ := Aside0.mk (blk_below (show _ from by repeat (first | exact BK.out | refine blk_drewN ?_ _ | refine blk_drew ?_)) hb); have n0_ := Aside0.mk (IsS54.below (show IsS54 w _ gd _ _ _ _ from HD.out) hb); have n4_ := Aside0.mk (below_step (by repeat (first | (with_reducible first | exact HB.out | apply below_alloc | apply pw_below_drewN | apply below_drew1) | exact HB.out)) hb); clear HD BK HB; have HB := n4_; have HD := n0_; have BK := n1_; clear n0_ n1_ n4_ hb)
              | (go_at_call 13; (with_reducible refine (disk_Disk_Crash.calls gd _ _ _ _ 9 _ _ _ _ _ w _ ?s1 ?s2 E10.out).mono ?_); (case s1 => exact HD.out); (case s2 => repeat (first | (with_reducible first | exact HB.out | apply below_alloc | apply pw_below_drewN | apply below_drew1) | exact HB.out)); rintro e w9 ⟨rfl, hi, hb, hk⟩; have n1_ := Aside0.mk (keepB BK.out hk NB.out); clear HD BK HB; have HB := Aside0.mk hb; have HD := Aside0.mk hi; have BK := n1_; clear n1_ hi hb hk))
            go_roundg m
            case measure => omega
            case rel => exact ⟨4, rfl, ⟨by have := HI.out; omega⟩, ⟨BK.out⟩, ⟨HB.out⟩⟩
      · as_aux_lemma =>
          have E1 := Aside0.mk old_append
          have E2 := Aside0.mk old_sync
          have E3 := Aside0.mk old_rest
          have E4 := Aside0.mk crash_4
          have E5 := Aside0.mk off_append
          have E6 := Aside0.mk off_sync
          have E7 := Aside0.mk off_crash
          have E8 := Aside0.mk goes_4
          have E9 := Aside0.mk swap_4
          have E10 := Aside0.mk last_4
          have hext := ext_4
          have hsz_ : (⟨#[111, 108, 100, 101, 114, 114, 101, 115, 116, 46]⟩ : ByteArray).size = 10 := rfl
          have hw1_ : IntKind.i64.wrap (5 + 4) = 9 := rfl
          have hw2_ : IntKind.i64.wrap 9 = 9 := rfl
          go_wp2_with (first
            | (go_at_call 9; (with_reducible refine (new_ok ⟨#[111, 108, 100]⟩ (by decide) w _ HB.out).mono ?_); rintro e w4 ⟨gd, rfl, hi, hb, hb2, hgd⟩; have HD := Aside0.mk hi; have NB : Aside0 (gb ≠ gd) := ⟨by have h1_ := blk_lt BK.out; omega⟩; have n1_ := Aside0.mk (blk_below BK.out hb2); clear HB BK; have HB := Aside0.mk hb; have BK := n1_; clear n1_ hi hb hb2 hgd)
            | (go_at_call 10; (with_reducible refine (thresherlaw17_num.calls 0 0 _ rfl).mono ?_); rintro e w9 ⟨rfl, hd⟩; have hb := hd.below; clear hd; have n1_ := Aside0.mk (blk_below (show _ from by repeat (first | exact BK.out | refine blk_drewN ?_ _ | refine blk_drew ?_)) hb); have n0_ := Aside0.mk (IsS54.below (show IsS54 w _ gd _ _ _ _ from HD.out) hb); have n4_ := Aside0.mk (below_step (by repeat (first | (with_reducible first | exact HB.out | apply below_alloc | apply pw_below_drewN | apply below_drew1) | exact HB.out)) hb); clear HD BK HB; have HB := n4_; have HD := n0_; have BK := n1_; clear n0_ n1_ n4_ hb)
            | (go_at_call 11; (with_reducible refine (disk_Disk_Append.calls gd _ _ _ _ ⟨#[101, 114]⟩ _ _ _ _ _ w _ ?s1 ?s2 E1.out).mono ?_); (case s1 => exact HD.out); (case s2 => repeat (first | (with_reducible first | exact HB.out | apply below_alloc | apply pw_below_drewN | apply below_drew1) | exact HB.out)); rintro e w9 ⟨rfl, hi, hb, hk⟩; have n1_ := Aside0.mk (keepB BK.out hk NB.out); clear HD BK HB; have HB := Aside0.mk hb; have HD := Aside0.mk hi; have BK := n1_; clear n1_ hi hb hk)
            | (go_at_call 12; (with_reducible refine (disk_Disk_Sync.calls gd _ _ _ _ _ _ _ _ _ w _ ?s1 ?s2 E2.out).mono ?_); (case s1 => exact HD.out); (case s2 => repeat (first | (with_reducible first | exact HB.out | apply below_alloc | apply pw_below_drewN | apply below_drew1) | exact HB.out)); rintro e w9 ⟨rfl, hi, hb, hk⟩; have n1_ := Aside0.mk (keepB BK.out hk NB.out); clear HD BK HB; have HB := Aside0.mk hb; have HD := Aside0.mk hi; have BK := n1_; clear n1_ hi hb hk)
            | (go_at_call 11; (with_reducible refine (disk_Disk_Append.calls gd _ _ _ _ ⟨#[114, 101, 115, 116, 46]⟩ _ _ _ _ _ w _ ?s1 ?s2 E3.out).mono ?_); (case s1 => exact HD.out); (case s2 => repeat (first | (with_reducible first | exact HB.out | apply below_alloc | apply pw_below_drewN | apply below_drew1) | exact HB.out)); rintro e w9 ⟨rfl, hi, hb, hk⟩; have n1_ := Aside0.mk (keepB BK.out hk NB.out); clear HD BK HB; have HB := Aside0.mk hb; have HD := Aside0.mk hi; have BK := n1_; clear n1_ hi hb hk))
          go_region_held3 (fun _ => True) (trivial) (first
              | (go_at_call 13; (with_reducible refine (disk_Disk_Crash.calls gd _ _ _ _ 4 _ _ _ _ _ w _ ?s1 ?s2 E4.out).mono ?_); (case s1 => exact HD.out); (case s2 => repeat (first | (with_reducible first | exact HB.out | apply below_alloc | apply pw_below_drewN | apply below_drew1) | exact HB.out)); rintro e w9 ⟨rfl, hi, hb, hk⟩; have n1_ := Aside0.mk (keepB BK.out hk NB.out); clear HD BK HB; have HB := Aside0.mk hb; have HD := Aside0.mk hi; have BK := n1_; clear n1_ hi hb hk)
              | (go_at_call 11; (with_reducible refine (disk_Disk_Append.calls gd _ _ _ _ ⟨#[120]⟩ _ _ _ _ _ w _ ?s1 ?s2 E5.out).mono ?_); (case s1 => exact HD.out); (case s2 => repeat (first | (with_reducible first | exact HB.out | apply below_alloc | apply pw_below_drewN | apply below_drew1) | exact HB.out)); rintro e w9 ⟨rfl, hi, hb, hk⟩; have n1_ := Aside0.mk (keepB BK.out hk NB.out); clear HD BK HB; have HB := Aside0.mk hb; have HD := Aside0.mk hi; have BK := n1_; clear n1_ hi hb hk)
              | (go_at_call 12; (with_reducible refine (disk_Disk_Sync.calls gd _ _ _ _ _ _ _ _ _ w _ ?s1 ?s2 E6.out).mono ?_); (case s1 => exact HD.out); (case s2 => repeat (first | (with_reducible first | exact HB.out | apply below_alloc | apply pw_below_drewN | apply below_drew1) | exact HB.out)); rintro e w9 ⟨rfl, hi, hb, hk⟩; have n1_ := Aside0.mk (keepB BK.out hk NB.out); clear HD BK HB; have HB := Aside0.mk hb; have HD := Aside0.mk hi; have BK := n1_; clear n1_ hi hb hk)
              | (go_at_call 10; (with_reducible refine (thresherlaw17_num.calls 12 12 _ rfl).mono ?_); rintro e w9 ⟨rfl, hd⟩; have hb := hd.below; clear hd; have n1_ := Aside0.mk (blk_below (show _ from by repeat (first | exact BK.out | refine blk_drewN ?_ _ | refine blk_drew ?_)) hb); have n0_ := Aside0.mk (IsS54.below (show IsS54 w _ gd _ _ _ _ from HD.out) hb); have n4_ := Aside0.mk (below_step (by repeat (first | (with_reducible first | exact HB.out | apply below_alloc | apply pw_below_drewN | apply below_drew1) | exact HB.out)) hb); clear HD BK HB; have HB := n4_; have HD := n0_; have BK := n1_; clear n0_ n1_ n4_ hb)
              | (go_at_call 13; (with_reducible refine (disk_Disk_Crash.calls gd _ _ _ _ 0 _ _ _ _ _ w _ ?s1 ?s2 E7.out).mono ?_); (case s1 => exact HD.out); (case s2 => repeat (first | (with_reducible first | exact HB.out | apply below_alloc | apply pw_below_drewN | apply below_drew1) | exact HB.out)); rintro e w9 ⟨rfl, hi, hb, hk⟩; have n1_ := Aside0.mk (keepB BK.out hk NB.out); clear HD BK HB; have HB := Aside0.mk hb; have HD := Aside0.mk hi; have BK := n1_; clear n1_ hi hb hk))
          all_goals
            go_wp2_with (first
              | (go_at_call 9; (with_reducible refine (new_ok ⟨#[97]⟩ (by decide) w _ HB.out).mono ?_); rintro e w4 ⟨gd, rfl, hi, hb, hb2, hgd⟩; clear HD NB; have HD := Aside0.mk hi; have NB : Aside0 (gb ≠ gd) := ⟨by have h1_ := blk_lt BK.out; omega⟩; have n1_ := Aside0.mk (blk_below BK.out hb2); clear HB BK; have HB := Aside0.mk hb; have BK := n1_; clear n1_ hi hb hb2 hgd)
              | (go_at_call 10; (with_reducible refine (thresherlaw17_num.calls 0 0 _ rfl).mono ?_); rintro e w9 ⟨rfl, hd⟩; have hb := hd.below; clear hd; have n1_ := Aside0.mk (blk_below (show _ from by repeat (first | exact BK.out | refine blk_drewN ?_ _ | refine blk_drew ?_)) hb); have n0_ := Aside0.mk (IsS54.below (show IsS54 w _ gd _ _ _ _ from HD.out) hb); have n4_ := Aside0.mk (below_step (by repeat (first | (with_reducible first | exact HB.out | apply below_alloc | apply pw_below_drewN | apply below_drew1) | exact HB.out)) hb); clear HD BK HB; have HB := n4_; have HD := n0_; have BK := n1_; clear n0_ n1_ n4_ hb)
              | (go_at_call 14; (with_reducible refine (disk_Disk_Off.calls gd _ _ _ _ 4 _ _ _ _ w _ ?s1 ?s2 E8.out).mono ?_); (case s1 => exact HD.out); (case s2 => repeat (first | (with_reducible first | exact HB.out | apply below_alloc | apply pw_below_drewN | apply below_drew1) | exact HB.out)); rintro e w9 ⟨rfl, hi, hb, hk⟩; have n1_ := Aside0.mk (keepB BK.out hk NB.out); clear HD BK HB; have HB := Aside0.mk hb; have HD := Aside0.mk hi; have BK := n1_; clear n1_ hi hb hk)
              | (go_at_call 15; (with_reducible refine (disk_Disk_Swap.calls gd _ _ _ _ ⟨#[98, 99]⟩ _ _ _ _ _ w _ ?s1 ?s2 E9.out).mono ?_); (case s1 => exact HD.out); (case s2 => repeat (first | (with_reducible first | exact HB.out | apply below_alloc | apply pw_below_drewN | apply below_drew1) | exact HB.out)); rintro e w9 ⟨rfl, hi, hb, hk⟩; have n1_ := Aside0.mk (keepB BK.out hk NB.out); clear HD BK HB; have HB := Aside0.mk hb; have HD := Aside0.mk hi; have BK := n1_; clear n1_ hi hb hk)
              | (go_at_call 10; (with_reducible refine (thresherlaw17_num.calls 0 0 _ rfl).mono ?_); rintro e w9 ⟨rfl, hd⟩; have hb := hd.below; clear hd; have n1_ := Aside0.mk (blk_below (show _ from by repeat (first | exact BK.out | refine blk_drewN ?_ _ | refine blk_drew ?_)) hb); have n0_ := Aside0.mk (IsS54.below (show IsS54 w _ gd _ _ _ _ from HD.out) hb); have n4_ := Aside0.mk (below_step (by repeat (first | (with_reducible first | exact HB.out | apply below_alloc | apply pw_below_drewN | apply below_drew1) | exact HB.out)) hb); clear HD BK HB; have HB := n4_; have HD := n0_; have BK := n1_; clear n0_ n1_ n4_ hb)
              | (go_at_call 13; (with_reducible refine (disk_Disk_Crash.calls gd _ _ _ _ 9 _ _ _ _ _ w _ ?s1 ?s2 E10.out).mono ?_); (case s1 => exact HD.out); (case s2 => repeat (first | (with_reducible first | exact HB.out | apply below_alloc | apply pw_below_drewN | apply below_drew1) | exact HB.out)); rintro e w9 ⟨rfl, hi, hb, hk⟩; have n1_ := Aside0.mk (keepB BK.out hk NB.out); clear HD BK HB; have HB := Aside0.mk hb; have HD := Aside0.mk hi; have BK := n1_; clear n1_ hi hb hk))
            go_roundg m
            case measure => omega
            case rel => exact ⟨5, rfl, ⟨by have := HI.out; omega⟩, ⟨BK.out⟩, ⟨HB.out⟩⟩
      · as_aux_lemma =>
          have E1 := Aside0.mk old_append
          have E2 := Aside0.mk old_sync
          have E3 := Aside0.mk old_rest
          have E4 := Aside0.mk crash_5
          have E5 := Aside0.mk off_append
          have E6 := Aside0.mk off_sync
          have E7 := Aside0.mk off_crash
          have E8 := Aside0.mk goes_5
          have E9 := Aside0.mk swap_5
          have E10 := Aside0.mk last_5
          have hext := ext_5
          have hsz_ : (⟨#[111, 108, 100, 101, 114, 114, 101, 115, 116, 46]⟩ : ByteArray).size = 10 := rfl
          have hw1_ : IntKind.i64.wrap (5 + 5) = 10 := rfl
          have hw2_ : IntKind.i64.wrap 10 = 10 := rfl
          go_wp2_with (first
            | (go_at_call 9; (with_reducible refine (new_ok ⟨#[111, 108, 100]⟩ (by decide) w _ HB.out).mono ?_); rintro e w4 ⟨gd, rfl, hi, hb, hb2, hgd⟩; have HD := Aside0.mk hi; have NB : Aside0 (gb ≠ gd) := ⟨by have h1_ := blk_lt BK.out; omega⟩; have n1_ := Aside0.mk (blk_below BK.out hb2); clear HB BK; have HB := Aside0.mk hb; have BK := n1_; clear n1_ hi hb hb2 hgd)
            | (go_at_call 10; (with_reducible refine (thresherlaw17_num.calls 0 0 _ rfl).mono ?_); rintro e w9 ⟨rfl, hd⟩; have hb := hd.below; clear hd; have n1_ := Aside0.mk (blk_below (show _ from by repeat (first | exact BK.out | refine blk_drewN ?_ _ | refine blk_drew ?_)) hb); have n0_ := Aside0.mk (IsS54.below (show IsS54 w _ gd _ _ _ _ from HD.out) hb); have n4_ := Aside0.mk (below_step (by repeat (first | (with_reducible first | exact HB.out | apply below_alloc | apply pw_below_drewN | apply below_drew1) | exact HB.out)) hb); clear HD BK HB; have HB := n4_; have HD := n0_; have BK := n1_; clear n0_ n1_ n4_ hb)
            | (go_at_call 11; (with_reducible refine (disk_Disk_Append.calls gd _ _ _ _ ⟨#[101, 114]⟩ _ _ _ _ _ w _ ?s1 ?s2 E1.out).mono ?_); (case s1 => exact HD.out); (case s2 => repeat (first | (with_reducible first | exact HB.out | apply below_alloc | apply pw_below_drewN | apply below_drew1) | exact HB.out)); rintro e w9 ⟨rfl, hi, hb, hk⟩; have n1_ := Aside0.mk (keepB BK.out hk NB.out); clear HD BK HB; have HB := Aside0.mk hb; have HD := Aside0.mk hi; have BK := n1_; clear n1_ hi hb hk)
            | (go_at_call 12; (with_reducible refine (disk_Disk_Sync.calls gd _ _ _ _ _ _ _ _ _ w _ ?s1 ?s2 E2.out).mono ?_); (case s1 => exact HD.out); (case s2 => repeat (first | (with_reducible first | exact HB.out | apply below_alloc | apply pw_below_drewN | apply below_drew1) | exact HB.out)); rintro e w9 ⟨rfl, hi, hb, hk⟩; have n1_ := Aside0.mk (keepB BK.out hk NB.out); clear HD BK HB; have HB := Aside0.mk hb; have HD := Aside0.mk hi; have BK := n1_; clear n1_ hi hb hk)
            | (go_at_call 11; (with_reducible refine (disk_Disk_Append.calls gd _ _ _ _ ⟨#[114, 101, 115, 116, 46]⟩ _ _ _ _ _ w _ ?s1 ?s2 E3.out).mono ?_); (case s1 => exact HD.out); (case s2 => repeat (first | (with_reducible first | exact HB.out | apply below_alloc | apply pw_below_drewN | apply below_drew1) | exact HB.out)); rintro e w9 ⟨rfl, hi, hb, hk⟩; have n1_ := Aside0.mk (keepB BK.out hk NB.out); clear HD BK HB; have HB := Aside0.mk hb; have HD := Aside0.mk hi; have BK := n1_; clear n1_ hi hb hk))
          go_region_held3 (fun _ => True) (trivial) (first
              | (go_at_call 13; (with_reducible refine (disk_Disk_Crash.calls gd _ _ _ _ 5 _ _ _ _ _ w _ ?s1 ?s2 E4.out).mono ?_); (case s1 => exact HD.out); (case s2 => repeat (first | (with_reducible first | exact HB.out | apply below_alloc | apply pw_below_drewN | apply below_drew1) | exact HB.out)); rintro e w9 ⟨rfl, hi, hb, hk⟩; have n1_ := Aside0.mk (keepB BK.out hk NB.out); clear HD BK HB; have HB := Aside0.mk hb; have HD := Aside0.mk hi; have BK := n1_; clear n1_ hi hb hk)
              | (go_at_call 11; (with_reducible refine (disk_Disk_Append.calls gd _ _ _ _ ⟨#[120]⟩ _ _ _ _ _ w _ ?s1 ?s2 E5.out).mono ?_); (case s1 => exact HD.out); (case s2 => repeat (first | (with_reducible first | exact HB.out | apply below_alloc | apply pw_below_drewN | apply below_drew1) | exact HB.out)); rintro e w9 ⟨rfl, hi, hb, hk⟩; have n1_ := Aside0.mk (keepB BK.out hk NB.out); clear HD BK HB; have HB := Aside0.mk hb; have HD := Aside0.mk hi; have BK := n1_; clear n1_ hi hb hk)
              | (go_at_call 12; (with_reducible refine (disk_Disk_Sync.calls gd _ _ _ _ _ _ _ _ _ w _ ?s1 ?s2 E6.out).mono ?_); (case s1 => exact HD.out); (case s2 => repeat (first | (with_reducible first | exact HB.out | apply below_alloc | apply pw_below_drewN | apply below_drew1) | exact HB.out)); rintro e w9 ⟨rfl, hi, hb, hk⟩; have n1_ := Aside0.mk (keepB BK.out hk NB.out); clear HD BK HB; have HB := Aside0.mk hb; have HD := Aside0.mk hi; have BK := n1_; clear n1_ hi hb hk)
              | (go_at_call 10; (with_reducible refine (thresherlaw17_num.calls 12 12 _ rfl).mono ?_); rintro e w9 ⟨rfl, hd⟩; have hb := hd.below; clear hd; have n1_ := Aside0.mk (blk_below (show _ from by repeat (first | exact BK.out | refine blk_drewN ?_ _ | refine blk_drew ?_)) hb); have n0_ := Aside0.mk (IsS54.below (show IsS54 w _ gd _ _ _ _ from HD.out) hb); have n4_ := Aside0.mk (below_step (by repeat (first | (with_reducible first | exact HB.out | apply below_alloc | apply pw_below_drewN | apply below_drew1) | exact HB.out)) hb); clear HD BK HB; have HB := n4_; have HD := n0_; have BK := n1_; clear n0_ n1_ n4_ hb)
              | (go_at_call 13; (with_reducible refine (disk_Disk_Crash.calls gd _ _ _ _ 0 _ _ _ _ _ w _ ?s1 ?s2 E7.out).mono ?_); (case s1 => exact HD.out); (case s2 => repeat (first | (with_reducible first | exact HB.out | apply below_alloc | apply pw_below_drewN | apply below_drew1) | exact HB.out)); rintro e w9 ⟨rfl, hi, hb, hk⟩; have n1_ := Aside0.mk (keepB BK.out hk NB.out); clear HD BK HB; have HB := Aside0.mk hb; have HD := Aside0.mk hi; have BK := n1_; clear n1_ hi hb hk))
          all_goals
            go_wp2_with (first
              | (go_at_call 9; (with_reducible refine (new_ok ⟨#[97]⟩ (by decide) w _ HB.out).mono ?_); rintro e w4 ⟨gd, rfl, hi, hb, hb2, hgd⟩; clear HD NB; have HD := Aside0.mk hi; have NB : Aside0 (gb ≠ gd) := ⟨by have h1_ := blk_lt BK.out; omega⟩; have n1_ := Aside0.mk (blk_below BK.out hb2); clear HB BK; have HB := Aside0.mk hb; have BK := n1_; clear n1_ hi hb hb2 hgd)
              | (go_at_call 10; (with_reducible refine (thresherlaw17_num.calls 0 0 _ rfl).mono ?_); rintro e w9 ⟨rfl, hd⟩; have hb := hd.below; clear hd; have n1_ := Aside0.mk (blk_below (show _ from by repeat (first | exact BK.out | refine blk_drewN ?_ _ | refine blk_drew ?_)) hb); have n0_ := Aside0.mk (IsS54.below (show IsS54 w _ gd _ _ _ _ from HD.out) hb); have n4_ := Aside0.mk (below_step (by repeat (first | (with_reducible first | exact HB.out | apply below_alloc | apply pw_below_drewN | apply below_drew1) | exact HB.out)) hb); clear HD BK HB; have HB := n4_; have HD := n0_; have BK := n1_; clear n0_ n1_ n4_ hb)
              | (go_at_call 14; (with_reducible refine (disk_Disk_Off.calls gd _ _ _ _ 5 _ _ _ _ w _ ?s1 ?s2 E8.out).mono ?_); (case s1 => exact HD.out); (case s2 => repeat (first | (with_reducible first | exact HB.out | apply below_alloc | apply pw_below_drewN | apply below_drew1) | exact HB.out)); rintro e w9 ⟨rfl, hi, hb, hk⟩; have n1_ := Aside0.mk (keepB BK.out hk NB.out); clear HD BK HB; have HB := Aside0.mk hb; have HD := Aside0.mk hi; have BK := n1_; clear n1_ hi hb hk)
              | (go_at_call 15; (with_reducible refine (disk_Disk_Swap.calls gd _ _ _ _ ⟨#[98, 99]⟩ _ _ _ _ _ w _ ?s1 ?s2 E9.out).mono ?_); (case s1 => exact HD.out); (case s2 => repeat (first | (with_reducible first | exact HB.out | apply below_alloc | apply pw_below_drewN | apply below_drew1) | exact HB.out)); rintro e w9 ⟨rfl, hi, hb, hk⟩; have n1_ := Aside0.mk (keepB BK.out hk NB.out); clear HD BK HB; have HB := Aside0.mk hb; have HD := Aside0.mk hi; have BK := n1_; clear n1_ hi hb hk)
              | (go_at_call 10; (with_reducible refine (thresherlaw17_num.calls 0 0 _ rfl).mono ?_); rintro e w9 ⟨rfl, hd⟩; have hb := hd.below; clear hd; have n1_ := Aside0.mk (blk_below (show _ from by repeat (first | exact BK.out | refine blk_drewN ?_ _ | refine blk_drew ?_)) hb); have n0_ := Aside0.mk (IsS54.below (show IsS54 w _ gd _ _ _ _ from HD.out) hb); have n4_ := Aside0.mk (below_step (by repeat (first | (with_reducible first | exact HB.out | apply below_alloc | apply pw_below_drewN | apply below_drew1) | exact HB.out)) hb); clear HD BK HB; have HB := n4_; have HD := n0_; have BK := n1_; clear n0_ n1_ n4_ hb)
              | (go_at_call 13; (with_reducible refine (disk_Disk_Crash.calls gd _ _ _ _ 9 _ _ _ _ _ w _ ?s1 ?s2 E10.out).mono ?_); (case s1 => exact HD.out); (case s2 => repeat (first | (with_reducible first | exact HB.out | apply below_alloc | apply pw_below_drewN | apply below_drew1) | exact HB.out)); rintro e w9 ⟨rfl, hi, hb, hk⟩; have n1_ := Aside0.mk (keepB BK.out hk NB.out); clear HD BK HB; have HB := Aside0.mk hb; have HD := Aside0.mk hi; have BK := n1_; clear n1_ hi hb hk))
            go_roundg m
            case measure => omega
            case rel => exact ⟨6, rfl, ⟨by have := HI.out; omega⟩, ⟨BK.out⟩, ⟨HB.out⟩⟩
      · as_aux_lemma =>
          have E1 := Aside0.mk old_append
          have E2 := Aside0.mk old_sync
          have E3 := Aside0.mk old_rest
          have E4 := Aside0.mk crash_6
          have E5 := Aside0.mk off_append
          have E6 := Aside0.mk off_sync
          have E7 := Aside0.mk off_crash
          have E8 := Aside0.mk goes_6
          have E9 := Aside0.mk swap_6
          have E10 := Aside0.mk last_6
          have hext := ext_6
          have hsz_ : (⟨#[111, 108, 100, 101, 114, 114, 101, 115, 116, 46]⟩ : ByteArray).size = 10 := rfl
          have hw1_ : IntKind.i64.wrap (5 + 5) = 10 := rfl
          have hw2_ : IntKind.i64.wrap 10 = 10 := rfl
          go_wp2_with (first
            | (go_at_call 9; (with_reducible refine (new_ok ⟨#[111, 108, 100]⟩ (by decide) w _ HB.out).mono ?_); rintro e w4 ⟨gd, rfl, hi, hb, hb2, hgd⟩; have HD := Aside0.mk hi; have NB : Aside0 (gb ≠ gd) := ⟨by have h1_ := blk_lt BK.out; omega⟩; have n1_ := Aside0.mk (blk_below BK.out hb2); clear HB BK; have HB := Aside0.mk hb; have BK := n1_; clear n1_ hi hb hb2 hgd)
            | (go_at_call 10; (with_reducible refine (thresherlaw17_num.calls 0 0 _ rfl).mono ?_); rintro e w9 ⟨rfl, hd⟩; have hb := hd.below; clear hd; have n1_ := Aside0.mk (blk_below (show _ from by repeat (first | exact BK.out | refine blk_drewN ?_ _ | refine blk_drew ?_)) hb); have n0_ := Aside0.mk (IsS54.below (show IsS54 w _ gd _ _ _ _ from HD.out) hb); have n4_ := Aside0.mk (below_step (by repeat (first | (with_reducible first | exact HB.out | apply below_alloc | apply pw_below_drewN | apply below_drew1) | exact HB.out)) hb); clear HD BK HB; have HB := n4_; have HD := n0_; have BK := n1_; clear n0_ n1_ n4_ hb)
            | (go_at_call 11; (with_reducible refine (disk_Disk_Append.calls gd _ _ _ _ ⟨#[101, 114]⟩ _ _ _ _ _ w _ ?s1 ?s2 E1.out).mono ?_); (case s1 => exact HD.out); (case s2 => repeat (first | (with_reducible first | exact HB.out | apply below_alloc | apply pw_below_drewN | apply below_drew1) | exact HB.out)); rintro e w9 ⟨rfl, hi, hb, hk⟩; have n1_ := Aside0.mk (keepB BK.out hk NB.out); clear HD BK HB; have HB := Aside0.mk hb; have HD := Aside0.mk hi; have BK := n1_; clear n1_ hi hb hk)
            | (go_at_call 12; (with_reducible refine (disk_Disk_Sync.calls gd _ _ _ _ _ _ _ _ _ w _ ?s1 ?s2 E2.out).mono ?_); (case s1 => exact HD.out); (case s2 => repeat (first | (with_reducible first | exact HB.out | apply below_alloc | apply pw_below_drewN | apply below_drew1) | exact HB.out)); rintro e w9 ⟨rfl, hi, hb, hk⟩; have n1_ := Aside0.mk (keepB BK.out hk NB.out); clear HD BK HB; have HB := Aside0.mk hb; have HD := Aside0.mk hi; have BK := n1_; clear n1_ hi hb hk)
            | (go_at_call 11; (with_reducible refine (disk_Disk_Append.calls gd _ _ _ _ ⟨#[114, 101, 115, 116, 46]⟩ _ _ _ _ _ w _ ?s1 ?s2 E3.out).mono ?_); (case s1 => exact HD.out); (case s2 => repeat (first | (with_reducible first | exact HB.out | apply below_alloc | apply pw_below_drewN | apply below_drew1) | exact HB.out)); rintro e w9 ⟨rfl, hi, hb, hk⟩; have n1_ := Aside0.mk (keepB BK.out hk NB.out); clear HD BK HB; have HB := Aside0.mk hb; have HD := Aside0.mk hi; have BK := n1_; clear n1_ hi hb hk))
          go_region_held3 (fun _ => True) (trivial) (first
              | (go_at_call 13; (with_reducible refine (disk_Disk_Crash.calls gd _ _ _ _ 6 _ _ _ _ _ w _ ?s1 ?s2 E4.out).mono ?_); (case s1 => exact HD.out); (case s2 => repeat (first | (with_reducible first | exact HB.out | apply below_alloc | apply pw_below_drewN | apply below_drew1) | exact HB.out)); rintro e w9 ⟨rfl, hi, hb, hk⟩; have n1_ := Aside0.mk (keepB BK.out hk NB.out); clear HD BK HB; have HB := Aside0.mk hb; have HD := Aside0.mk hi; have BK := n1_; clear n1_ hi hb hk)
              | (go_at_call 11; (with_reducible refine (disk_Disk_Append.calls gd _ _ _ _ ⟨#[120]⟩ _ _ _ _ _ w _ ?s1 ?s2 E5.out).mono ?_); (case s1 => exact HD.out); (case s2 => repeat (first | (with_reducible first | exact HB.out | apply below_alloc | apply pw_below_drewN | apply below_drew1) | exact HB.out)); rintro e w9 ⟨rfl, hi, hb, hk⟩; have n1_ := Aside0.mk (keepB BK.out hk NB.out); clear HD BK HB; have HB := Aside0.mk hb; have HD := Aside0.mk hi; have BK := n1_; clear n1_ hi hb hk)
              | (go_at_call 12; (with_reducible refine (disk_Disk_Sync.calls gd _ _ _ _ _ _ _ _ _ w _ ?s1 ?s2 E6.out).mono ?_); (case s1 => exact HD.out); (case s2 => repeat (first | (with_reducible first | exact HB.out | apply below_alloc | apply pw_below_drewN | apply below_drew1) | exact HB.out)); rintro e w9 ⟨rfl, hi, hb, hk⟩; have n1_ := Aside0.mk (keepB BK.out hk NB.out); clear HD BK HB; have HB := Aside0.mk hb; have HD := Aside0.mk hi; have BK := n1_; clear n1_ hi hb hk)
              | (go_at_call 10; (with_reducible refine (thresherlaw17_num.calls 12 12 _ rfl).mono ?_); rintro e w9 ⟨rfl, hd⟩; have hb := hd.below; clear hd; have n1_ := Aside0.mk (blk_below (show _ from by repeat (first | exact BK.out | refine blk_drewN ?_ _ | refine blk_drew ?_)) hb); have n0_ := Aside0.mk (IsS54.below (show IsS54 w _ gd _ _ _ _ from HD.out) hb); have n4_ := Aside0.mk (below_step (by repeat (first | (with_reducible first | exact HB.out | apply below_alloc | apply pw_below_drewN | apply below_drew1) | exact HB.out)) hb); clear HD BK HB; have HB := n4_; have HD := n0_; have BK := n1_; clear n0_ n1_ n4_ hb)
              | (go_at_call 13; (with_reducible refine (disk_Disk_Crash.calls gd _ _ _ _ 0 _ _ _ _ _ w _ ?s1 ?s2 E7.out).mono ?_); (case s1 => exact HD.out); (case s2 => repeat (first | (with_reducible first | exact HB.out | apply below_alloc | apply pw_below_drewN | apply below_drew1) | exact HB.out)); rintro e w9 ⟨rfl, hi, hb, hk⟩; have n1_ := Aside0.mk (keepB BK.out hk NB.out); clear HD BK HB; have HB := Aside0.mk hb; have HD := Aside0.mk hi; have BK := n1_; clear n1_ hi hb hk))
          all_goals
            go_wp2_with (first
              | (go_at_call 9; (with_reducible refine (new_ok ⟨#[97]⟩ (by decide) w _ HB.out).mono ?_); rintro e w4 ⟨gd, rfl, hi, hb, hb2, hgd⟩; clear HD NB; have HD := Aside0.mk hi; have NB : Aside0 (gb ≠ gd) := ⟨by have h1_ := blk_lt BK.out; omega⟩; have n1_ := Aside0.mk (blk_below BK.out hb2); clear HB BK; have HB := Aside0.mk hb; have BK := n1_; clear n1_ hi hb hb2 hgd)
              | (go_at_call 10; (with_reducible refine (thresherlaw17_num.calls 0 0 _ rfl).mono ?_); rintro e w9 ⟨rfl, hd⟩; have hb := hd.below; clear hd; have n1_ := Aside0.mk (blk_below (show _ from by repeat (first | exact BK.out | refine blk_drewN ?_ _ | refine blk_drew ?_)) hb); have n0_ := Aside0.mk (IsS54.below (show IsS54 w _ gd _ _ _ _ from HD.out) hb); have n4_ := Aside0.mk (below_step (by repeat (first | (with_reducible first | exact HB.out | apply below_alloc | apply pw_below_drewN | apply below_drew1) | exact HB.out)) hb); clear HD BK HB; have HB := n4_; have HD := n0_; have BK := n1_; clear n0_ n1_ n4_ hb)
              | (go_at_call 14; (with_reducible refine (disk_Disk_Off.calls gd _ _ _ _ 6 _ _ _ _ w _ ?s1 ?s2 E8.out).mono ?_); (case s1 => exact HD.out); (case s2 => repeat (first | (with_reducible first | exact HB.out | apply below_alloc | apply pw_below_drewN | apply below_drew1) | exact HB.out)); rintro e w9 ⟨rfl, hi, hb, hk⟩; have n1_ := Aside0.mk (keepB BK.out hk NB.out); clear HD BK HB; have HB := Aside0.mk hb; have HD := Aside0.mk hi; have BK := n1_; clear n1_ hi hb hk)
              | (go_at_call 15; (with_reducible refine (disk_Disk_Swap.calls gd _ _ _ _ ⟨#[98, 99]⟩ _ _ _ _ _ w _ ?s1 ?s2 E9.out).mono ?_); (case s1 => exact HD.out); (case s2 => repeat (first | (with_reducible first | exact HB.out | apply below_alloc | apply pw_below_drewN | apply below_drew1) | exact HB.out)); rintro e w9 ⟨rfl, hi, hb, hk⟩; have n1_ := Aside0.mk (keepB BK.out hk NB.out); clear HD BK HB; have HB := Aside0.mk hb; have HD := Aside0.mk hi; have BK := n1_; clear n1_ hi hb hk)
              | (go_at_call 10; (with_reducible refine (thresherlaw17_num.calls 0 0 _ rfl).mono ?_); rintro e w9 ⟨rfl, hd⟩; have hb := hd.below; clear hd; have n1_ := Aside0.mk (blk_below (show _ from by repeat (first | exact BK.out | refine blk_drewN ?_ _ | refine blk_drew ?_)) hb); have n0_ := Aside0.mk (IsS54.below (show IsS54 w _ gd _ _ _ _ from HD.out) hb); have n4_ := Aside0.mk (below_step (by repeat (first | (with_reducible first | exact HB.out | apply below_alloc | apply pw_below_drewN | apply below_drew1) | exact HB.out)) hb); clear HD BK HB; have HB := n4_; have HD := n0_; have BK := n1_; clear n0_ n1_ n4_ hb)
              | (go_at_call 13; (with_reducible refine (disk_Disk_Crash.calls gd _ _ _ _ 9 _ _ _ _ _ w _ ?s1 ?s2 E10.out).mono ?_); (case s1 => exact HD.out); (case s2 => repeat (first | (with_reducible first | exact HB.out | apply below_alloc | apply pw_below_drewN | apply below_drew1) | exact HB.out)); rintro e w9 ⟨rfl, hi, hb, hk⟩; have n1_ := Aside0.mk (keepB BK.out hk NB.out); clear HD BK HB; have HB := Aside0.mk hb; have HD := Aside0.mk hi; have BK := n1_; clear n1_ hi hb hk))
            go_roundg m
            case measure => omega
            case rel => exact ⟨7, rfl, ⟨by have := HI.out; omega⟩, ⟨BK.out⟩, ⟨HB.out⟩⟩
      · as_aux_lemma =>
          have E1 := Aside0.mk old_append
          have E2 := Aside0.mk old_sync
          have E3 := Aside0.mk old_rest
          have E4 := Aside0.mk crash_7
          have E5 := Aside0.mk off_append
          have E6 := Aside0.mk off_sync
          have E7 := Aside0.mk off_crash
          have E8 := Aside0.mk goes_7
          have E9 := Aside0.mk swap_7
          have E10 := Aside0.mk last_7
          have hext := ext_7
          have hsz_ : (⟨#[111, 108, 100, 101, 114, 114, 101, 115, 116, 46]⟩ : ByteArray).size = 10 := rfl
          have hw1_ : IntKind.i64.wrap (5 + 5) = 10 := rfl
          have hw2_ : IntKind.i64.wrap 10 = 10 := rfl
          go_wp2_with (first
            | (go_at_call 9; (with_reducible refine (new_ok ⟨#[111, 108, 100]⟩ (by decide) w _ HB.out).mono ?_); rintro e w4 ⟨gd, rfl, hi, hb, hb2, hgd⟩; have HD := Aside0.mk hi; have NB : Aside0 (gb ≠ gd) := ⟨by have h1_ := blk_lt BK.out; omega⟩; have n1_ := Aside0.mk (blk_below BK.out hb2); clear HB BK; have HB := Aside0.mk hb; have BK := n1_; clear n1_ hi hb hb2 hgd)
            | (go_at_call 10; (with_reducible refine (thresherlaw17_num.calls 0 0 _ rfl).mono ?_); rintro e w9 ⟨rfl, hd⟩; have hb := hd.below; clear hd; have n1_ := Aside0.mk (blk_below (show _ from by repeat (first | exact BK.out | refine blk_drewN ?_ _ | refine blk_drew ?_)) hb); have n0_ := Aside0.mk (IsS54.below (show IsS54 w _ gd _ _ _ _ from HD.out) hb); have n4_ := Aside0.mk (below_step (by repeat (first | (with_reducible first | exact HB.out | apply below_alloc | apply pw_below_drewN | apply below_drew1) | exact HB.out)) hb); clear HD BK HB; have HB := n4_; have HD := n0_; have BK := n1_; clear n0_ n1_ n4_ hb)
            | (go_at_call 11; (with_reducible refine (disk_Disk_Append.calls gd _ _ _ _ ⟨#[101, 114]⟩ _ _ _ _ _ w _ ?s1 ?s2 E1.out).mono ?_); (case s1 => exact HD.out); (case s2 => repeat (first | (with_reducible first | exact HB.out | apply below_alloc | apply pw_below_drewN | apply below_drew1) | exact HB.out)); rintro e w9 ⟨rfl, hi, hb, hk⟩; have n1_ := Aside0.mk (keepB BK.out hk NB.out); clear HD BK HB; have HB := Aside0.mk hb; have HD := Aside0.mk hi; have BK := n1_; clear n1_ hi hb hk)
            | (go_at_call 12; (with_reducible refine (disk_Disk_Sync.calls gd _ _ _ _ _ _ _ _ _ w _ ?s1 ?s2 E2.out).mono ?_); (case s1 => exact HD.out); (case s2 => repeat (first | (with_reducible first | exact HB.out | apply below_alloc | apply pw_below_drewN | apply below_drew1) | exact HB.out)); rintro e w9 ⟨rfl, hi, hb, hk⟩; have n1_ := Aside0.mk (keepB BK.out hk NB.out); clear HD BK HB; have HB := Aside0.mk hb; have HD := Aside0.mk hi; have BK := n1_; clear n1_ hi hb hk)
            | (go_at_call 11; (with_reducible refine (disk_Disk_Append.calls gd _ _ _ _ ⟨#[114, 101, 115, 116, 46]⟩ _ _ _ _ _ w _ ?s1 ?s2 E3.out).mono ?_); (case s1 => exact HD.out); (case s2 => repeat (first | (with_reducible first | exact HB.out | apply below_alloc | apply pw_below_drewN | apply below_drew1) | exact HB.out)); rintro e w9 ⟨rfl, hi, hb, hk⟩; have n1_ := Aside0.mk (keepB BK.out hk NB.out); clear HD BK HB; have HB := Aside0.mk hb; have HD := Aside0.mk hi; have BK := n1_; clear n1_ hi hb hk))
          go_region_held3 (fun _ => True) (trivial) (first
              | (go_at_call 13; (with_reducible refine (disk_Disk_Crash.calls gd _ _ _ _ 7 _ _ _ _ _ w _ ?s1 ?s2 E4.out).mono ?_); (case s1 => exact HD.out); (case s2 => repeat (first | (with_reducible first | exact HB.out | apply below_alloc | apply pw_below_drewN | apply below_drew1) | exact HB.out)); rintro e w9 ⟨rfl, hi, hb, hk⟩; have n1_ := Aside0.mk (keepB BK.out hk NB.out); clear HD BK HB; have HB := Aside0.mk hb; have HD := Aside0.mk hi; have BK := n1_; clear n1_ hi hb hk)
              | (go_at_call 11; (with_reducible refine (disk_Disk_Append.calls gd _ _ _ _ ⟨#[120]⟩ _ _ _ _ _ w _ ?s1 ?s2 E5.out).mono ?_); (case s1 => exact HD.out); (case s2 => repeat (first | (with_reducible first | exact HB.out | apply below_alloc | apply pw_below_drewN | apply below_drew1) | exact HB.out)); rintro e w9 ⟨rfl, hi, hb, hk⟩; have n1_ := Aside0.mk (keepB BK.out hk NB.out); clear HD BK HB; have HB := Aside0.mk hb; have HD := Aside0.mk hi; have BK := n1_; clear n1_ hi hb hk)
              | (go_at_call 12; (with_reducible refine (disk_Disk_Sync.calls gd _ _ _ _ _ _ _ _ _ w _ ?s1 ?s2 E6.out).mono ?_); (case s1 => exact HD.out); (case s2 => repeat (first | (with_reducible first | exact HB.out | apply below_alloc | apply pw_below_drewN | apply below_drew1) | exact HB.out)); rintro e w9 ⟨rfl, hi, hb, hk⟩; have n1_ := Aside0.mk (keepB BK.out hk NB.out); clear HD BK HB; have HB := Aside0.mk hb; have HD := Aside0.mk hi; have BK := n1_; clear n1_ hi hb hk)
              | (go_at_call 10; (with_reducible refine (thresherlaw17_num.calls 12 12 _ rfl).mono ?_); rintro e w9 ⟨rfl, hd⟩; have hb := hd.below; clear hd; have n1_ := Aside0.mk (blk_below (show _ from by repeat (first | exact BK.out | refine blk_drewN ?_ _ | refine blk_drew ?_)) hb); have n0_ := Aside0.mk (IsS54.below (show IsS54 w _ gd _ _ _ _ from HD.out) hb); have n4_ := Aside0.mk (below_step (by repeat (first | (with_reducible first | exact HB.out | apply below_alloc | apply pw_below_drewN | apply below_drew1) | exact HB.out)) hb); clear HD BK HB; have HB := n4_; have HD := n0_; have BK := n1_; clear n0_ n1_ n4_ hb)
              | (go_at_call 13; (with_reducible refine (disk_Disk_Crash.calls gd _ _ _ _ 0 _ _ _ _ _ w _ ?s1 ?s2 E7.out).mono ?_); (case s1 => exact HD.out); (case s2 => repeat (first | (with_reducible first | exact HB.out | apply below_alloc | apply pw_below_drewN | apply below_drew1) | exact HB.out)); rintro e w9 ⟨rfl, hi, hb, hk⟩; have n1_ := Aside0.mk (keepB BK.out hk NB.out); clear HD BK HB; have HB := Aside0.mk hb; have HD := Aside0.mk hi; have BK := n1_; clear n1_ hi hb hk))
          all_goals
            go_wp2_with (first
              | (go_at_call 9; (with_reducible refine (new_ok ⟨#[97]⟩ (by decide) w _ HB.out).mono ?_); rintro e w4 ⟨gd, rfl, hi, hb, hb2, hgd⟩; clear HD NB; have HD := Aside0.mk hi; have NB : Aside0 (gb ≠ gd) := ⟨by have h1_ := blk_lt BK.out; omega⟩; have n1_ := Aside0.mk (blk_below BK.out hb2); clear HB BK; have HB := Aside0.mk hb; have BK := n1_; clear n1_ hi hb hb2 hgd)
              | (go_at_call 10; (with_reducible refine (thresherlaw17_num.calls 0 0 _ rfl).mono ?_); rintro e w9 ⟨rfl, hd⟩; have hb := hd.below; clear hd; have n1_ := Aside0.mk (blk_below (show _ from by repeat (first | exact BK.out | refine blk_drewN ?_ _ | refine blk_drew ?_)) hb); have n0_ := Aside0.mk (IsS54.below (show IsS54 w _ gd _ _ _ _ from HD.out) hb); have n4_ := Aside0.mk (below_step (by repeat (first | (with_reducible first | exact HB.out | apply below_alloc | apply pw_below_drewN | apply below_drew1) | exact HB.out)) hb); clear HD BK HB; have HB := n4_; have HD := n0_; have BK := n1_; clear n0_ n1_ n4_ hb)
              | (go_at_call 14; (with_reducible refine (disk_Disk_Off.calls gd _ _ _ _ 7 _ _ _ _ w _ ?s1 ?s2 E8.out).mono ?_); (case s1 => exact HD.out); (case s2 => repeat (first | (with_reducible first | exact HB.out | apply below_alloc | apply pw_below_drewN | apply below_drew1) | exact HB.out)); rintro e w9 ⟨rfl, hi, hb, hk⟩; have n1_ := Aside0.mk (keepB BK.out hk NB.out); clear HD BK HB; have HB := Aside0.mk hb; have HD := Aside0.mk hi; have BK := n1_; clear n1_ hi hb hk)
              | (go_at_call 15; (with_reducible refine (disk_Disk_Swap.calls gd _ _ _ _ ⟨#[98, 99]⟩ _ _ _ _ _ w _ ?s1 ?s2 E9.out).mono ?_); (case s1 => exact HD.out); (case s2 => repeat (first | (with_reducible first | exact HB.out | apply below_alloc | apply pw_below_drewN | apply below_drew1) | exact HB.out)); rintro e w9 ⟨rfl, hi, hb, hk⟩; have n1_ := Aside0.mk (keepB BK.out hk NB.out); clear HD BK HB; have HB := Aside0.mk hb; have HD := Aside0.mk hi; have BK := n1_; clear n1_ hi hb hk)
              | (go_at_call 10; (with_reducible refine (thresherlaw17_num.calls 0 0 _ rfl).mono ?_); rintro e w9 ⟨rfl, hd⟩; have hb := hd.below; clear hd; have n1_ := Aside0.mk (blk_below (show _ from by repeat (first | exact BK.out | refine blk_drewN ?_ _ | refine blk_drew ?_)) hb); have n0_ := Aside0.mk (IsS54.below (show IsS54 w _ gd _ _ _ _ from HD.out) hb); have n4_ := Aside0.mk (below_step (by repeat (first | (with_reducible first | exact HB.out | apply below_alloc | apply pw_below_drewN | apply below_drew1) | exact HB.out)) hb); clear HD BK HB; have HB := n4_; have HD := n0_; have BK := n1_; clear n0_ n1_ n4_ hb)
              | (go_at_call 13; (with_reducible refine (disk_Disk_Crash.calls gd _ _ _ _ 9 _ _ _ _ _ w _ ?s1 ?s2 E10.out).mono ?_); (case s1 => exact HD.out); (case s2 => repeat (first | (with_reducible first | exact HB.out | apply below_alloc | apply pw_below_drewN | apply below_drew1) | exact HB.out)); rintro e w9 ⟨rfl, hi, hb, hk⟩; have n1_ := Aside0.mk (keepB BK.out hk NB.out); clear HD BK HB; have HB := Aside0.mk hb; have HD := Aside0.mk hi; have BK := n1_; clear n1_ hi hb hk))
            go_roundg m
            case measure => omega
            case rel => exact ⟨8, rfl, ⟨by have := HI.out; omega⟩, ⟨BK.out⟩, ⟨HB.out⟩⟩
      · as_aux_lemma =>
          have E1 := Aside0.mk old_append
          have E2 := Aside0.mk old_sync
          have E3 := Aside0.mk old_rest
          have E4 := Aside0.mk crash_8
          have E5 := Aside0.mk off_append
          have E6 := Aside0.mk off_sync
          have E7 := Aside0.mk off_crash
          have E8 := Aside0.mk goes_8
          have E9 := Aside0.mk swap_8
          have E10 := Aside0.mk last_8
          have hext := ext_8
          have hsz_ : (⟨#[111, 108, 100, 101, 114, 114, 101, 115, 116, 46]⟩ : ByteArray).size = 10 := rfl
          have hw1_ : IntKind.i64.wrap (5 + 5) = 10 := rfl
          have hw2_ : IntKind.i64.wrap 10 = 10 := rfl
          go_wp2_with (first
            | (go_at_call 9; (with_reducible refine (new_ok ⟨#[111, 108, 100]⟩ (by decide) w _ HB.out).mono ?_); rintro e w4 ⟨gd, rfl, hi, hb, hb2, hgd⟩; have HD := Aside0.mk hi; have NB : Aside0 (gb ≠ gd) := ⟨by have h1_ := blk_lt BK.out; omega⟩; have n1_ := Aside0.mk (blk_below BK.out hb2); clear HB BK; have HB := Aside0.mk hb; have BK := n1_; clear n1_ hi hb hb2 hgd)
            | (go_at_call 10; (with_reducible refine (thresherlaw17_num.calls 0 0 _ rfl).mono ?_); rintro e w9 ⟨rfl, hd⟩; have hb := hd.below; clear hd; have n1_ := Aside0.mk (blk_below (show _ from by repeat (first | exact BK.out | refine blk_drewN ?_ _ | refine blk_drew ?_)) hb); have n0_ := Aside0.mk (IsS54.below (show IsS54 w _ gd _ _ _ _ from HD.out) hb); have n4_ := Aside0.mk (below_step (by repeat (first | (with_reducible first | exact HB.out | apply below_alloc | apply pw_below_drewN | apply below_drew1) | exact HB.out)) hb); clear HD BK HB; have HB := n4_; have HD := n0_; have BK := n1_; clear n0_ n1_ n4_ hb)
            | (go_at_call 11; (with_reducible refine (disk_Disk_Append.calls gd _ _ _ _ ⟨#[101, 114]⟩ _ _ _ _ _ w _ ?s1 ?s2 E1.out).mono ?_); (case s1 => exact HD.out); (case s2 => repeat (first | (with_reducible first | exact HB.out | apply below_alloc | apply pw_below_drewN | apply below_drew1) | exact HB.out)); rintro e w9 ⟨rfl, hi, hb, hk⟩; have n1_ := Aside0.mk (keepB BK.out hk NB.out); clear HD BK HB; have HB := Aside0.mk hb; have HD := Aside0.mk hi; have BK := n1_; clear n1_ hi hb hk)
            | (go_at_call 12; (with_reducible refine (disk_Disk_Sync.calls gd _ _ _ _ _ _ _ _ _ w _ ?s1 ?s2 E2.out).mono ?_); (case s1 => exact HD.out); (case s2 => repeat (first | (with_reducible first | exact HB.out | apply below_alloc | apply pw_below_drewN | apply below_drew1) | exact HB.out)); rintro e w9 ⟨rfl, hi, hb, hk⟩; have n1_ := Aside0.mk (keepB BK.out hk NB.out); clear HD BK HB; have HB := Aside0.mk hb; have HD := Aside0.mk hi; have BK := n1_; clear n1_ hi hb hk)
            | (go_at_call 11; (with_reducible refine (disk_Disk_Append.calls gd _ _ _ _ ⟨#[114, 101, 115, 116, 46]⟩ _ _ _ _ _ w _ ?s1 ?s2 E3.out).mono ?_); (case s1 => exact HD.out); (case s2 => repeat (first | (with_reducible first | exact HB.out | apply below_alloc | apply pw_below_drewN | apply below_drew1) | exact HB.out)); rintro e w9 ⟨rfl, hi, hb, hk⟩; have n1_ := Aside0.mk (keepB BK.out hk NB.out); clear HD BK HB; have HB := Aside0.mk hb; have HD := Aside0.mk hi; have BK := n1_; clear n1_ hi hb hk))
          go_region_held3 (fun _ => True) (trivial) (first
              | (go_at_call 13; (with_reducible refine (disk_Disk_Crash.calls gd _ _ _ _ 8 _ _ _ _ _ w _ ?s1 ?s2 E4.out).mono ?_); (case s1 => exact HD.out); (case s2 => repeat (first | (with_reducible first | exact HB.out | apply below_alloc | apply pw_below_drewN | apply below_drew1) | exact HB.out)); rintro e w9 ⟨rfl, hi, hb, hk⟩; have n1_ := Aside0.mk (keepB BK.out hk NB.out); clear HD BK HB; have HB := Aside0.mk hb; have HD := Aside0.mk hi; have BK := n1_; clear n1_ hi hb hk)
              | (go_at_call 11; (with_reducible refine (disk_Disk_Append.calls gd _ _ _ _ ⟨#[120]⟩ _ _ _ _ _ w _ ?s1 ?s2 E5.out).mono ?_); (case s1 => exact HD.out); (case s2 => repeat (first | (with_reducible first | exact HB.out | apply below_alloc | apply pw_below_drewN | apply below_drew1) | exact HB.out)); rintro e w9 ⟨rfl, hi, hb, hk⟩; have n1_ := Aside0.mk (keepB BK.out hk NB.out); clear HD BK HB; have HB := Aside0.mk hb; have HD := Aside0.mk hi; have BK := n1_; clear n1_ hi hb hk)
              | (go_at_call 12; (with_reducible refine (disk_Disk_Sync.calls gd _ _ _ _ _ _ _ _ _ w _ ?s1 ?s2 E6.out).mono ?_); (case s1 => exact HD.out); (case s2 => repeat (first | (with_reducible first | exact HB.out | apply below_alloc | apply pw_below_drewN | apply below_drew1) | exact HB.out)); rintro e w9 ⟨rfl, hi, hb, hk⟩; have n1_ := Aside0.mk (keepB BK.out hk NB.out); clear HD BK HB; have HB := Aside0.mk hb; have HD := Aside0.mk hi; have BK := n1_; clear n1_ hi hb hk)
              | (go_at_call 10; (with_reducible refine (thresherlaw17_num.calls 12 12 _ rfl).mono ?_); rintro e w9 ⟨rfl, hd⟩; have hb := hd.below; clear hd; have n1_ := Aside0.mk (blk_below (show _ from by repeat (first | exact BK.out | refine blk_drewN ?_ _ | refine blk_drew ?_)) hb); have n0_ := Aside0.mk (IsS54.below (show IsS54 w _ gd _ _ _ _ from HD.out) hb); have n4_ := Aside0.mk (below_step (by repeat (first | (with_reducible first | exact HB.out | apply below_alloc | apply pw_below_drewN | apply below_drew1) | exact HB.out)) hb); clear HD BK HB; have HB := n4_; have HD := n0_; have BK := n1_; clear n0_ n1_ n4_ hb)
              | (go_at_call 13; (with_reducible refine (disk_Disk_Crash.calls gd _ _ _ _ 0 _ _ _ _ _ w _ ?s1 ?s2 E7.out).mono ?_); (case s1 => exact HD.out); (case s2 => repeat (first | (with_reducible first | exact HB.out | apply below_alloc | apply pw_below_drewN | apply below_drew1) | exact HB.out)); rintro e w9 ⟨rfl, hi, hb, hk⟩; have n1_ := Aside0.mk (keepB BK.out hk NB.out); clear HD BK HB; have HB := Aside0.mk hb; have HD := Aside0.mk hi; have BK := n1_; clear n1_ hi hb hk))
          all_goals
            go_wp2_with (first
              | (go_at_call 9; (with_reducible refine (new_ok ⟨#[97]⟩ (by decide) w _ HB.out).mono ?_); rintro e w4 ⟨gd, rfl, hi, hb, hb2, hgd⟩; clear HD NB; have HD := Aside0.mk hi; have NB : Aside0 (gb ≠ gd) := ⟨by have h1_ := blk_lt BK.out; omega⟩; have n1_ := Aside0.mk (blk_below BK.out hb2); clear HB BK; have HB := Aside0.mk hb; have BK := n1_; clear n1_ hi hb hb2 hgd)
              | (go_at_call 10; (with_reducible refine (thresherlaw17_num.calls 0 0 _ rfl).mono ?_); rintro e w9 ⟨rfl, hd⟩; have hb := hd.below; clear hd; have n1_ := Aside0.mk (blk_below (show _ from by repeat (first | exact BK.out | refine blk_drewN ?_ _ | refine blk_drew ?_)) hb); have n0_ := Aside0.mk (IsS54.below (show IsS54 w _ gd _ _ _ _ from HD.out) hb); have n4_ := Aside0.mk (below_step (by repeat (first | (with_reducible first | exact HB.out | apply below_alloc | apply pw_below_drewN | apply below_drew1) | exact HB.out)) hb); clear HD BK HB; have HB := n4_; have HD := n0_; have BK := n1_; clear n0_ n1_ n4_ hb)
              | (go_at_call 14; (with_reducible refine (disk_Disk_Off.calls gd _ _ _ _ 8 _ _ _ _ w _ ?s1 ?s2 E8.out).mono ?_); (case s1 => exact HD.out); (case s2 => repeat (first | (with_reducible first | exact HB.out | apply below_alloc | apply pw_below_drewN | apply below_drew1) | exact HB.out)); rintro e w9 ⟨rfl, hi, hb, hk⟩; have n1_ := Aside0.mk (keepB BK.out hk NB.out); clear HD BK HB; have HB := Aside0.mk hb; have HD := Aside0.mk hi; have BK := n1_; clear n1_ hi hb hk)
              | (go_at_call 15; (with_reducible refine (disk_Disk_Swap.calls gd _ _ _ _ ⟨#[98, 99]⟩ _ _ _ _ _ w _ ?s1 ?s2 E9.out).mono ?_); (case s1 => exact HD.out); (case s2 => repeat (first | (with_reducible first | exact HB.out | apply below_alloc | apply pw_below_drewN | apply below_drew1) | exact HB.out)); rintro e w9 ⟨rfl, hi, hb, hk⟩; have n1_ := Aside0.mk (keepB BK.out hk NB.out); clear HD BK HB; have HB := Aside0.mk hb; have HD := Aside0.mk hi; have BK := n1_; clear n1_ hi hb hk)
              | (go_at_call 10; (with_reducible refine (thresherlaw17_num.calls 0 0 _ rfl).mono ?_); rintro e w9 ⟨rfl, hd⟩; have hb := hd.below; clear hd; have n1_ := Aside0.mk (blk_below (show _ from by repeat (first | exact BK.out | refine blk_drewN ?_ _ | refine blk_drew ?_)) hb); have n0_ := Aside0.mk (IsS54.below (show IsS54 w _ gd _ _ _ _ from HD.out) hb); have n4_ := Aside0.mk (below_step (by repeat (first | (with_reducible first | exact HB.out | apply below_alloc | apply pw_below_drewN | apply below_drew1) | exact HB.out)) hb); clear HD BK HB; have HB := n4_; have HD := n0_; have BK := n1_; clear n0_ n1_ n4_ hb)
              | (go_at_call 13; (with_reducible refine (disk_Disk_Crash.calls gd _ _ _ _ 9 _ _ _ _ _ w _ ?s1 ?s2 E10.out).mono ?_); (case s1 => exact HD.out); (case s2 => repeat (first | (with_reducible first | exact HB.out | apply below_alloc | apply pw_below_drewN | apply below_drew1) | exact HB.out)); rintro e w9 ⟨rfl, hi, hb, hk⟩; have n1_ := Aside0.mk (keepB BK.out hk NB.out); clear HD BK HB; have HB := Aside0.mk hb; have HD := Aside0.mk hi; have BK := n1_; clear n1_ hi hb hk))
            go_roundg m
            case measure => omega
            case rel => exact ⟨9, rfl, ⟨by have := HI.out; omega⟩, ⟨BK.out⟩, ⟨HB.out⟩⟩
    · have hlt1 : decide (i < 9) = false := decide_eq_false hlt
      go_wp2_with (first
        | ((with_reducible refine gate_dst (N := 110) rfl ?_); refine big_event rfl (N := 110) rfl rfl rfl rfl ?_; intro v110 w70 big HZ HX1 hcat hcat2 hb hcv; have n1_ := Aside0.mk (below_step HB.out hb); have n2_ := Aside0.mk (blk_below BK.out hb); clear HB BK; have HB := n1_; have BK := n2_; clear n1_ n2_ hb)
        | (go_at_call 9; (with_reducible refine (new_ok big (Nat.le_of_eq HZ.out) w _ HB.out).mono ?_); rintro e w4 ⟨gd, rfl, hi, hb, hb2, hgd⟩; have HD := Aside0.mk hi; have NB : Aside0 (gb ≠ gd) := ⟨by have h1_ := blk_lt BK.out; omega⟩; have n1_ := Aside0.mk (blk_below BK.out hb2); clear HB BK; have HB := Aside0.mk hb; have BK := n1_; clear n1_ hi hb hb2 hgd; obtain ⟨hz0, hz1⟩ := cells2 BK.out; have hzf := fun i_ => blk_frozen BK.out i_)
        | (go_at_call 9; (with_reducible refine (new_long (big ++ ⟨#[120]⟩) ?s1 _).mono ?_); (case s1 => (have h_ := HX1.out; omega)); rintro e w5 ⟨rfl, hb⟩; have n0_ := Aside0.mk (HD.out.below hb); have n1_ := Aside0.mk (blk_below BK.out hb); have n2_ := Aside0.mk (below_step HB.out hb); clear HD BK HB hz0 hz1 hzf; have HD := n0_; have BK := n1_; have HB := n2_; clear n0_ n1_ n2_ hb; obtain ⟨hz0, hz1⟩ := cells2 BK.out; have hzf := fun i_ => blk_frozen BK.out i_)
        | (go_at_call 10; (with_reducible refine (thresherlaw17_num.calls 0 0 _ rfl).mono ?_); rintro e w9 ⟨rfl, hd⟩; have hb := hd.below; clear hd; have n1_ := Aside0.mk (blk_below (show _ from by repeat (first | exact BK.out | refine blk_drewN ?_ _ | refine blk_drew ?_)) hb); have n0_ := Aside0.mk (IsS54.below (show IsS54 w _ gd _ _ _ _ from HD.out) hb); have n4_ := Aside0.mk (below_step (by repeat (first | (with_reducible first | exact HB.out | apply below_alloc | apply pw_below_drewN | apply below_drew1) | exact HB.out)) hb); clear HD BK HB; have HB := n4_; have HD := n0_; have BK := n1_; clear n0_ n1_ n4_ hb; (try clear hz0 hz1 hzf); obtain ⟨hz0, hz1⟩ := cells2 BK.out; have hzf := fun i_ => blk_frozen BK.out i_)
        | (go_at_call 10; (with_reducible refine (thresherlaw17_num.calls 1 1 _ rfl).mono ?_); rintro e w9 ⟨rfl, hd⟩; have hb := hd.below; clear hd; have n1_ := Aside0.mk (blk_below (show _ from by repeat (first | exact BK.out | refine blk_drewN ?_ _ | refine blk_drew ?_)) hb); have n0_ := Aside0.mk (IsS54.below (show IsS54 w _ gd _ _ _ _ from HD.out) hb); have n4_ := Aside0.mk (below_step (by repeat (first | (with_reducible first | exact HB.out | apply below_alloc | apply pw_below_drewN | apply below_drew1) | exact HB.out)) hb); clear HD BK HB; have HB := n4_; have HD := n0_; have BK := n1_; clear n0_ n1_ n4_ hb; (try clear hz0 hz1 hzf); obtain ⟨hz0, hz1⟩ := cells2 BK.out; have hzf := fun i_ => blk_frozen BK.out i_)
        | (go_at_call 10; (with_reducible refine (thresherlaw17_num.calls 5 5 _ rfl).mono ?_); rintro e w9 ⟨rfl, hd⟩; have hb := hd.below; clear hd; have n1_ := Aside0.mk (blk_below (show _ from by repeat (first | exact BK.out | refine blk_drewN ?_ _ | refine blk_drew ?_)) hb); have n0_ := Aside0.mk (IsS54.below (show IsS54 w _ gd _ _ _ _ from HD.out) hb); have n4_ := Aside0.mk (below_step (by repeat (first | (with_reducible first | exact HB.out | apply below_alloc | apply pw_below_drewN | apply below_drew1) | exact HB.out)) hb); clear HD BK HB; have HB := n4_; have HD := n0_; have BK := n1_; clear n0_ n1_ n4_ hb; (try clear hz0 hz1 hzf); obtain ⟨hz0, hz1⟩ := cells2 BK.out; have hzf := fun i_ => blk_frozen BK.out i_)
        | (go_at_call 11; (with_reducible refine (disk_Disk_Append.calls gd _ _ _ _ ⟨#[120]⟩ _ _ _ _ _ w _ ?s1 ?s2 (big_append big HZ.out)).mono ?_); (case s1 => exact HD.out); (case s2 => repeat (first | (with_reducible first | exact HB.out | apply below_alloc | apply pw_below_drewN | apply below_drew1) | exact HB.out)); rintro e w9 ⟨rfl, hi, hb, hk⟩; have n1_ := Aside0.mk (keepB BK.out hk NB.out); clear HD BK HB; have HB := Aside0.mk hb; have HD := Aside0.mk hi; have BK := n1_; clear n1_ hi hb hk; (try clear hz0 hz1 hzf); obtain ⟨hz0, hz1⟩ := cells2 BK.out; have hzf := fun i_ => blk_frozen BK.out i_)
        | (go_at_call 15; (with_reducible refine (disk_Disk_Swap.calls gd _ _ _ _ (big ++ ⟨#[120]⟩) _ _ _ _ _ w _ ?s1 ?s2 (big_swap big (big ++ ⟨#[120]⟩) HZ.out HX1.out)).mono ?_); (case s1 => exact HD.out); (case s2 => repeat (first | (with_reducible first | exact HB.out | apply below_alloc | apply pw_below_drewN | apply below_drew1) | exact HB.out)); rintro e w9 ⟨rfl, hi, hb, hk⟩; have n1_ := Aside0.mk (keepB BK.out hk NB.out); clear HD BK HB; have HB := Aside0.mk hb; have HD := Aside0.mk hi; have BK := n1_; clear n1_ hi hb hk; (try clear hz0 hz1 hzf); obtain ⟨hz0, hz1⟩ := cells2 BK.out; have hzf := fun i_ => blk_frozen BK.out i_)
        | (go_at_call 16; (with_reducible refine (wakes_calls _).mono ?_); rintro e w12 ⟨rfl, hb⟩; have n0_ := Aside0.mk (below_step HB.out hb); clear HB; have HB := n0_; clear n0_ hb))
      go_ret
      exact ⟨by first | rfl | simp, HB.out⟩
end DiskSafe
def thresherlaw17_DiskSafe.f (a0_0 : ByteArray) (l0_1 : List (S40)) : Option Bool := some true
theorem thresherlaw17_DiskSafe.calls (a0_0 : ByteArray) (A0_1 : Option Addr) (c0_1 : Nat) (l0_1 : List (S40)) (r : Bool) (w : World) (hr0_1 : Kd.C k40 w A0_1 l0_1.length l0_1) (hc0_1 : l0_1.length ≤ c0_1) (h : thresherlaw17_DiskSafe.f a0_0 l0_1 = some r) :
    Calls Try.prog 3 #[.agg #[.string a0_0, .slice A0_1 l0_1.length c0_1]] w fun e w' => e = .returned (.bool r) ∧ Below w.heap.size w w' := by
  obtain rfl := Option.some.inj h
  exact DiskSafe.safe_calls a0_0 A0_1 l0_1.length c0_1 w


/-! ### thresherlaw17_heavy: function 17 -/
def thresherlaw17_heavy.l0 : Nat → Int → Int → ByteArray → List (S40) → Option (Bool)
  | 0, _, _, _, _ => none
  | k + 1, x3, x4, x132000, x132001 => if x4 < (x132001.length : Int) then (if x3 < 1048576 then (if 0 ≤ x4 then (thresherlaw17_heavy.l0 k (wrap64 ((wrap64 (x3 + 1)) + (((rd_T40 x132001 x4).f2).size : Int))) (wrap64 (x4 + 1)) x132000 x132001) else (none)) else (some (decide (x3 > 6000)))) else (some (decide (x3 > 6000)))
def thresherlaw17_heavy.f (k : Nat) (a0_0 : ByteArray) (l0_1 : List (S40)) : Option (Bool) := thresherlaw17_heavy.l0 k (a0_0.size : Int) 0 a0_0 l0_1
theorem thresherlaw17_heavy.mono_l : ∀ k, (∀ y0 y1 y2 y3, LeO (thresherlaw17_heavy.l0 k y0 y1 y2 y3) (thresherlaw17_heavy.l0 (k + 1) y0 y1 y2 y3))
  | 0 => fun _ _ _ _ r h => by simp [thresherlaw17_heavy.l0] at h
  | k + 1 => by
    have ih0 := thresherlaw17_heavy.mono_l k
    · intro y0 y1 y2 y3
      unfold thresherlaw17_heavy.l0
      repeat' first
      | (with_reducible exact ih0 _ _ _ _)
      | (with_reducible exact LeO.refl _)
      | (with_reducible exact LeO.none _)
      | (with_reducible refine LeO.ite ?_ ?_)
      | (with_reducible refine LeO.bind ?_ (fun _ => ?_))
      | exact ih0 _ _ _ _
      | exact LeO.none _
      | refine LeO.ite ?_ ?_
      | refine LeO.bind ?_ (fun _ => ?_)
theorem thresherlaw17_heavy.mono : ∀ a0 a1 k, LeO (thresherlaw17_heavy.f k a0 a1) (thresherlaw17_heavy.f (k + 1) a0 a1) := by
  intro a0 a1 k
  have ih0 := thresherlaw17_heavy.mono_l k
  unfold thresherlaw17_heavy.f
  repeat' first
      | (with_reducible exact ih0 _ _ _ _)
      | (with_reducible exact LeO.refl _)
      | (with_reducible exact LeO.none _)
      | (with_reducible refine LeO.ite ?_ ?_)
      | (with_reducible refine LeO.bind ?_ (fun _ => ?_))
      | exact ih0 _ _ _ _
      | exact LeO.none _
      | refine LeO.ite ?_ ?_
      | refine LeO.bind ?_ (fun _ => ?_)
set_option maxHeartbeats 8000000 in
set_option maxRecDepth 100000 in
theorem thresherlaw17_heavy.calls (k : Nat) (a0_0 : ByteArray) (A0_1 : Option Addr) (c0_1 : Nat) (l0_1 : List (S40)) (r : Bool) (w : World) (hr0_1 : Kd.C k40 w A0_1 l0_1.length l0_1) (hc0_1 : l0_1.length ≤ c0_1) (h : thresherlaw17_heavy.f k a0_0 l0_1 = some r) :
    Calls Try.prog 17 #[.agg #[.string a0_0, .slice A0_1 l0_1.length c0_1]] w fun e w' => e = .returned (.bool r) ∧ Below w.heap.size w w' := by
  have hu24 := Try.underlying24
  have HR0_1 := Aside0.mk hr0_1
  have HC0_1 := Aside0.mk hc0_1
  clear hr0_1 hc0_1
  have HB := Aside0.mk (Below.refl w.heap.size w)
  have H : (thresherlaw17_heavy.l0 k (a0_0.size : Int) 0 a0_0 l0_1) = some r := h
  clear h
  have H' := Aside0.mk H
  clear H
  go_enter Try.func17, Try.ntmps17
  go_wp2_with (first | ((with_reducible refine gate_dst (N := 1) rfl ?_); refine box_event ?hg (N := 1) ?hd (cs := #[.string a0_0, .slice A0_1 l0_1.length c0_1]) (t := 24) ?hr ?_; (case hd => rfl); (case hg => rfl); (case hr => first | (go_simp; done) | (go_simp; rfl)); intro gb131 hg w2 hbox hb; have n0_ := Aside0.mk (below_step (by repeat (first | (with_reducible first | exact HB.out | apply below_alloc | apply pw_below_drewN | apply below_drew1) | exact HB.out)) hb); have n1_ := Aside0.mk (hbox); have n2_ := Aside0.mk ((by rw [hg]; exact (below_size (by repeat (first | (with_reducible first | exact HB.out | apply below_alloc | apply pw_below_drewN | apply below_drew1) | exact HB.out))) : w.heap.size ≤ gb131)); have n3_ := Aside0.mk ((by rw [hg]; exact (below_size (by repeat (first | (with_reducible first | exact HB.out | apply below_alloc | apply pw_below_drewN | apply below_drew1) | exact HB.out))) : w.heap.size ≤ gb131)); clear HB; have HB := n0_; have BK131 := n1_; have GW131 := n2_; have GE131 := n3_; clear n0_ n1_ n2_ n3_; clear hb hbox hg; obtain ⟨hcz3_0, hcz3_1⟩ := cells2 BK131.out; have hfz3_0 := fun i_ => blk_frozen BK131.out i_))
  go_loopg [3, 4] k (fun kq v3 v4 w' => ∃ (x3_1 : Int) (x4_1 : Int), v3 = .int .i64 x3_1 ∧ v4 = .int .i64 x4_1 ∧ Aside0 (thresherlaw17_heavy.l0 kq x3_1 x4_1 a0_0 l0_1 = some r) ∧ Aside0 (kq ≤ k) ∧ Aside0 (w'.heap[gb131]? = some (.cells #[.string a0_0, (.slice A0_1 l0_1.length c0_1)] 24 (0, 0))) ∧ Aside0 (Below w.heap.size w w'))
  case atStart => exact ⟨((a0_0.size : Int)), (0), (by first | rfl | (simp; done) | (simp [*]; done)), (by first | rfl | (simp; done) | (simp [*]; done)), H', ⟨Nat.le_refl _⟩, ⟨by (with_reducible repeat (first | refine blk_drewN ?_ _ | refine blk_drew ?_ | refine blk_alloc ?_ _)); exact BK131.out⟩, ⟨by repeat (first | (with_reducible first | exact HB.out | apply below_alloc | apply pw_below_drewN | apply below_drew1 | refine below_set ?_ GE131.out) | exact HB.out)⟩⟩
  case round =>
    clear H'
    (try clear c1); (try clear p2); (try clear hcz3_0); (try clear hcz3_1); (try clear hfz3_0)
    obtain ⟨x3_1, x4_1, rfl, rfl, HA, HK1, BK131, HB⟩ := hrel
    cases gk with
    | zero => exact absurd HA.out (by simp [thresherlaw17_heavy.l0])
    | succ k1 =>
      have H := HA.out
      clear HA
      simp only [thresherlaw17_heavy.l0] at H
      by_cases c4 : x4_1 < (l0_1.length : Int)
      · rw [if_pos c4] at H
        have c4b0 : decide (x4_1 < (l0_1.length : Int)) = true := decide_eq_true c4
        clear c4
        by_cases c5 : x3_1 < 1048576
        · rw [if_pos c5] at H
          have c5b0 : decide (x3_1 < 1048576) = true := decide_eq_true c5
          clear c5
          by_cases c6 : 0 ≤ x4_1
          · rw [if_pos c6] at H
            have c6b0 : decide (0 ≤ x4_1) = true := decide_eq_true c6
            clear c6
            have H' := Aside0.mk H
            clear H
            obtain ⟨hcz7_0, hcz7_1⟩ := cells2 BK131.out
            have hfz7_0 := fun i_ => blk_frozen BK131.out i_
            have p132 : 0 ≤ (x4_1 : Int) := of_decide_eq_true (by first | (with_reducible assumption) | assumption)
            have q132 : x4_1 < (l0_1.length : Int) := of_decide_eq_true (by first | (with_reducible assumption) | assumption)
            obtain ⟨ad132, e132, hx132_0, hx132_1, hx132_2⟩ := at_T40 HR0_1.out x4_1 p132 q132
            cases e132
            replace hx132_0 := (HB.out.cell (World.block_lt_of_cell? w _ hx132_0)).trans hx132_0
            replace hx132_1 := (HB.out.cell (World.block_lt_of_cell? w _ hx132_1)).trans hx132_1
            replace hx132_2 := (HB.out.cell (World.block_lt_of_cell? w _ hx132_2)).trans hx132_2
            replace p132 := eq_true p132
            replace q132 := eq_true q132
            go_wp2
            go_roundg k1
            case measure => have := HK1.out; omega
            case rel => exact ⟨(wrap64 ((wrap64 (x3_1 + 1)) + (((rd_T40 l0_1 x4_1).f2).size : Int))), (wrap64 (x4_1 + 1)), (by first | rfl | (simp; done) | (simp [*]; done)), (by first | rfl | (simp; done) | (simp [*]; done)), H', ⟨by have := HK1.out; omega⟩, ⟨by (with_reducible repeat (first | refine blk_drewN ?_ _ | refine blk_drew ?_ | refine blk_alloc ?_ _)); exact BK131.out⟩, ⟨by repeat (first | (with_reducible first | exact HB.out | apply below_alloc | apply pw_below_drewN | apply below_drew1 | refine below_set ?_ GE131.out) | exact HB.out)⟩⟩
          · rw [if_neg c6] at H
            exact absurd H (by simp)
        · rw [if_neg c5] at H
          have c5b0 : decide (x3_1 < 1048576) = false := decide_eq_false c5
          clear c5
          obtain rfl := Option.some.inj H
          obtain ⟨hcz8_0, hcz8_1⟩ := cells2 BK131.out
          have hfz8_0 := fun i_ => blk_frozen BK131.out i_
          go_wp2
          go_ret
          exact ⟨by first | rfl | (simp [errW_none, errW_some] <;> rfl) | (simp [*, errW_none, errW_some] <;> rfl), by repeat (first | (with_reducible first | exact HB.out | apply below_alloc | apply pw_below_drewN | apply below_drew1 | refine below_set ?_ GE131.out) | exact HB.out)⟩
      · rw [if_neg c4] at H
        have c4b0 : decide (x4_1 < (l0_1.length : Int)) = false := decide_eq_false c4
        clear c4
        obtain rfl := Option.some.inj H
        obtain ⟨hcz9_0, hcz9_1⟩ := cells2 BK131.out
        have hfz9_0 := fun i_ => blk_frozen BK131.out i_
        go_wp2
        go_ret
        exact ⟨by first | rfl | (simp [errW_none, errW_some] <;> rfl) | (simp [*, errW_none, errW_some] <;> rfl), by repeat (first | (with_reducible first | exact HB.out | apply below_alloc | apply pw_below_drewN | apply below_drew1 | refine below_set ?_ GE131.out) | exact HB.out)⟩

/-- A state of type 47 at block g of W; what its slices lead to came in by w0. -/
def IsS47 (w0 W : World) (g : Nat) (f0 : ByteArray) (f1 : Int) (f2 : Int) (f3 : Bool) (f4 : Bool) : Prop := W.heap[g]? = some (.cells #[.string f0, .int .i64 f1, .int .i64 f2, .bool f3, .bool f4] 47 (0, 0)) ∧ w0.heap.size ≤ g
theorem IsS47.grown {w0 W : World} {g : Nat} {f0 : ByteArray} {f1 : Int} {f2 : Int} {f3 : Bool} {f4 : Bool} {W1 : World} {row : Option Nat} (h : IsS47 w0 W g f0 f1 f2 f3 f4) (hw : W.grownBy W1 row) (hne : some g ≠ row) : IsS47 w0 W1 g f0 f1 f2 f3 f4 := by
  obtain ⟨hb, hg⟩ := h
  exact ⟨blk_grown hb hw hne, hg⟩
theorem IsS47.own_neN {w0 W : World} {g : Nat} {f0 : ByteArray} {f1 : Int} {f2 : Int} {f3 : Bool} {f4 : Bool} {α : Type} {d : Kd α} {e : Nat} {base : Nat} {ok : Nat → Prop} {v : Value} {xs : List α} (h : IsS47 w0 W g f0 f1 f2 f3 f4) (ho : Kd.N d e W base ok v xs) (ht : e ≠ 47) : some g ≠ v.ownBlock := by
  obtain ⟨hb, hg⟩ := h
  exact Kd.N_ne ho hb ht
theorem IsS47.fresh {w0 W : World} {g : Nat} {f0 : ByteArray} {f1 : Int} {f2 : Int} {f3 : Bool} {f4 : Bool} (h : IsS47 w0 W g f0 f1 f2 f3 f4) : ∀ k, W.heap.size ≤ k → k ≠ g := by
  obtain ⟨hb, hg⟩ := h
  exact Kd.freshB hb
theorem IsS47.kept {w0 W : World} {g : Nat} {f0 : ByteArray} {f1 : Int} {f2 : Int} {f3 : Bool} {f4 : Bool} {W1 : World} {S : Nat → Prop} (h : IsS47 w0 W g f0 f1 f2 f3 f4) (hk : Kept W W1 S) (hne : ¬ S g) : IsS47 w0 W1 g f0 f1 f2 f3 f4 := by
  obtain ⟨hb, hg⟩ := h
  exact ⟨blk_kept hb hk hne, hg⟩
theorem IsS47.below {w0 W : World} {g : Nat} {f0 : ByteArray} {f1 : Int} {f2 : Int} {f3 : Bool} {f4 : Bool} {W1 : World} (h : IsS47 w0 W g f0 f1 f2 f3 f4) (hw : Below W.heap.size W W1) : IsS47 w0 W1 g f0 f1 f2 f3 f4 := h.grown (grown_of_below hw none) (by simp)
theorem IsS47.alloc {w0 W : World} {g : Nat} {f0 : ByteArray} {f1 : Int} {f2 : Int} {f3 : Bool} {f4 : Bool} (h : IsS47 w0 W g f0 f1 f2 f3 f4) (o : Obj) : IsS47 w0 (W.alloc o) g f0 f1 f2 f3 f4 := h.below (below_alloc (Below.refl _ _) o)
theorem IsS47.drewN {w0 W : World} {g : Nat} {f0 : ByteArray} {f1 : Int} {f2 : Int} {f3 : Bool} {f4 : Bool} (h : IsS47 w0 W g f0 f1 f2 f3 f4) (m : Nat) : IsS47 w0 (W.drewN m) g f0 f1 f2 f3 f4 := h
theorem IsS47.drew {w0 W : World} {g : Nat} {f0 : ByteArray} {f1 : Int} {f2 : Int} {f3 : Bool} {f4 : Bool} (h : IsS47 w0 W g f0 f1 f2 f3 f4) : IsS47 w0 W.drew g f0 f1 f2 f3 f4 := h
theorem IsS47.at_ {w0 W : World} {g : Nat} {f0 : ByteArray} {f1 : Int} {f2 : Int} {f3 : Bool} {f4 : Bool} {w' : World} {m : Nat} (hq : W.drewN m = w') (h : IsS47 w0 W g f0 f1 f2 f3 f4) : IsS47 w0 w' g f0 f1 f2 f3 f4 := by subst hq; exact IsS47.drewN h m
theorem IsS47.apart {w0 W : World} {g : Nat} {f0 : ByteArray} {f1 : Int} {f2 : Int} {f3 : Bool} {f4 : Bool} {α : Type} {d : Kd α} {e : Nat} {base : Nat} {ok : Nat → Prop} {v : Value} {xs : List α} (h : IsS47 w0 W g f0 f1 f2 f3 f4) (ho : d.R e W base ok v xs) (ht : ∀ q, q ∈ e :: d.E → q ≠ 47) : d.R e W base (fun k => ok k ∧ k ≠ g) v xs := by
  obtain ⟨hb, hg⟩ := h
  exact Kd.R_types ho hb ht
theorem IsS47.own_ne {w0 W : World} {g : Nat} {f0 : ByteArray} {f1 : Int} {f2 : Int} {f3 : Bool} {f4 : Bool} {α : Type} {d : Kd α} {e : Nat} {base : Nat} {ok : Nat → Prop} {v : Value} {xs : List α} (h : IsS47 w0 W g f0 f1 f2 f3 f4) (ho : d.R e W base ok v xs) (ht : e ≠ 47) : some g ≠ v.ownBlock := by
  obtain ⟨hb, hg⟩ := h
  exact Kd.R_ne ho hb ht
theorem IsS47.apartQ {w0 W : World} {g : Nat} {f0 : ByteArray} {f1 : Int} {f2 : Int} {f3 : Bool} {f4 : Bool} {α : Type} {d : Kd α} {e : Nat} {base : Nat} {ok : Nat → Prop} {v : Value} {xs : List α} (h : IsS47 w0 W g f0 f1 f2 f3 f4) (ho : d.Q e W base ok v xs) (ht : ∀ q, q ∈ e :: d.E → q ≠ 47) : d.Q e W base (fun k => ok k ∧ k ≠ g) v xs := by
  obtain ⟨hb, hg⟩ := h
  exact Kd.Q_types ho hb ht
theorem IsS47.own_neQ {w0 W : World} {g : Nat} {f0 : ByteArray} {f1 : Int} {f2 : Int} {f3 : Bool} {f4 : Bool} {α : Type} {d : Kd α} {e : Nat} {base : Nat} {ok : Nat → Prop} {v : Value} {xs : List α} (h : IsS47 w0 W g f0 f1 f2 f3 f4) (ho : d.Q e W base ok v xs) (ht : e ≠ 47) : some g ≠ v.ownBlock := by
  obtain ⟨hb, hg⟩ := h
  exact Kd.Q_ne ho hb ht
theorem IsS47.apartS {w0 W : World} {g : Nat} {f0 : ByteArray} {f1 : Int} {f2 : Int} {f3 : Bool} {f4 : Bool} {α : Type} {d : Kd α} {e : Nat} {base : Nat} {ok : Nat → Prop} {v : Value} {xs : List α} (h : IsS47 w0 W g f0 f1 f2 f3 f4) (ho : d.S e W base ok v xs) (ht : ∀ q, q ∈ e :: d.E → q ≠ 47) : d.S e W base (fun k => ok k ∧ k ≠ g) v xs := by
  obtain ⟨hb, hg⟩ := h
  exact Kd.S_types ho hb ht
theorem IsS47.own_neS {w0 W : World} {g : Nat} {f0 : ByteArray} {f1 : Int} {f2 : Int} {f3 : Bool} {f4 : Bool} {α : Type} {d : Kd α} {e : Nat} {base : Nat} {ok : Nat → Prop} {v : Value} {xs : List α} (h : IsS47 w0 W g f0 f1 f2 f3 f4) (ho : d.S e W base ok v xs) (ht : e ≠ 47) : some g ≠ v.ownBlock := by
  obtain ⟨hb, hg⟩ := h
  exact Kd.S_ne ho hb ht
theorem IsS47.lt {w0 W : World} {g : Nat} {f0 : ByteArray} {f1 : Int} {f2 : Int} {f3 : Bool} {f4 : Bool} (h : IsS47 w0 W g f0 f1 f2 f3 f4) : g < W.heap.size := by
  obtain ⟨hb, hg⟩ := h
  exact blk_lt hb
theorem IsS47.ge {w0 W : World} {g : Nat} {f0 : ByteArray} {f1 : Int} {f2 : Int} {f3 : Bool} {f4 : Bool} (h : IsS47 w0 W g f0 f1 f2 f3 f4) : w0.heap.size ≤ g := by
  obtain ⟨hb, hg⟩ := h
  exact hg
theorem IsS47.ne_blk {w0 W : World} {g : Nat} {f0 : ByteArray} {f1 : Int} {f2 : Int} {f3 : Bool} {f4 : Bool} {a : Nat} {cs : Array Value} {t : TypeId} {fr : Nat × Nat} (h : IsS47 w0 W g f0 f1 f2 f3 f4) (hb2 : W.heap[a]? = some (.cells cs t fr)) (ht : t ≠ 47) : g ≠ a := by
  obtain ⟨hb, hg⟩ := h
  rintro rfl
  rw [hb] at hb2
  injection hb2 with hb2
  injection hb2 with _ ht2
  exact ht ht2.symm
theorem IsS47.far {w0 W : World} {g : Nat} {f0 : ByteArray} {f1 : Int} {f2 : Int} {f3 : Bool} {f4 : Bool} {p : Addr} (h : IsS47 w0 W g f0 f1 f2 f3 f4) (hne : g ≠ p.block) (u : Value) : IsS47 w0 (W.setCell p u) g f0 f1 f2 f3 f4 := by
  obtain ⟨hb, hg⟩ := h
  exact ⟨blk_far hb hne u, hg⟩
theorem cellS47_0 {W : World} {g : Nat} {f0 : ByteArray} {f1 : Int} {f2 : Int} {f3 : Bool} {f4 : Bool} (h : W.heap[g]? = some (.cells #[.string f0, .int .i64 f1, .int .i64 f2, .bool f3, .bool f4] 47 (0, 0))) : W.cell? ⟨g, 0, none⟩ = some (.string f0) := (blk_cell h 0).trans rfl
theorem IsS47.set_0 {w0 W : World} {g : Nat} {f0 : ByteArray} {f1 : Int} {f2 : Int} {f3 : Bool} {f4 : Bool} (h : IsS47 w0 W g f0 f1 f2 f3 f4) (x : ByteArray) : IsS47 w0 (W.setCell ⟨g, 0, none⟩ (.string x)) g x f1 f2 f3 f4 := by
  obtain ⟨hb, hg⟩ := h
  exact ⟨by simpa using blk_set hb 0 (.string x), hg⟩
theorem cellS47_1 {W : World} {g : Nat} {f0 : ByteArray} {f1 : Int} {f2 : Int} {f3 : Bool} {f4 : Bool} (h : W.heap[g]? = some (.cells #[.string f0, .int .i64 f1, .int .i64 f2, .bool f3, .bool f4] 47 (0, 0))) : W.cell? ⟨g, 1, none⟩ = some (.int .i64 f1) := (blk_cell h 1).trans rfl
theorem IsS47.set_1 {w0 W : World} {g : Nat} {f0 : ByteArray} {f1 : Int} {f2 : Int} {f3 : Bool} {f4 : Bool} (h : IsS47 w0 W g f0 f1 f2 f3 f4) (x : Int) : IsS47 w0 (W.setCell ⟨g, 1, none⟩ (.int .i64 x)) g f0 x f2 f3 f4 := by
  obtain ⟨hb, hg⟩ := h
  exact ⟨by simpa using blk_set hb 1 (.int .i64 x), hg⟩
theorem cellS47_2 {W : World} {g : Nat} {f0 : ByteArray} {f1 : Int} {f2 : Int} {f3 : Bool} {f4 : Bool} (h : W.heap[g]? = some (.cells #[.string f0, .int .i64 f1, .int .i64 f2, .bool f3, .bool f4] 47 (0, 0))) : W.cell? ⟨g, 2, none⟩ = some (.int .i64 f2) := (blk_cell h 2).trans rfl
theorem IsS47.set_2 {w0 W : World} {g : Nat} {f0 : ByteArray} {f1 : Int} {f2 : Int} {f3 : Bool} {f4 : Bool} (h : IsS47 w0 W g f0 f1 f2 f3 f4) (x : Int) : IsS47 w0 (W.setCell ⟨g, 2, none⟩ (.int .i64 x)) g f0 f1 x f3 f4 := by
  obtain ⟨hb, hg⟩ := h
  exact ⟨by simpa using blk_set hb 2 (.int .i64 x), hg⟩
theorem cellS47_3 {W : World} {g : Nat} {f0 : ByteArray} {f1 : Int} {f2 : Int} {f3 : Bool} {f4 : Bool} (h : W.heap[g]? = some (.cells #[.string f0, .int .i64 f1, .int .i64 f2, .bool f3, .bool f4] 47 (0, 0))) : W.cell? ⟨g, 3, none⟩ = some (.bool f3) := (blk_cell h 3).trans rfl
theorem IsS47.set_3 {w0 W : World} {g : Nat} {f0 : ByteArray} {f1 : Int} {f2 : Int} {f3 : Bool} {f4 : Bool} (h : IsS47 w0 W g f0 f1 f2 f3 f4) (x : Bool) : IsS47 w0 (W.setCell ⟨g, 3, none⟩ (.bool x)) g f0 f1 f2 x f4 := by
  obtain ⟨hb, hg⟩ := h
  exact ⟨by simpa using blk_set hb 3 (.bool x), hg⟩
theorem cellS47_4 {W : World} {g : Nat} {f0 : ByteArray} {f1 : Int} {f2 : Int} {f3 : Bool} {f4 : Bool} (h : W.heap[g]? = some (.cells #[.string f0, .int .i64 f1, .int .i64 f2, .bool f3, .bool f4] 47 (0, 0))) : W.cell? ⟨g, 4, none⟩ = some (.bool f4) := (blk_cell h 4).trans rfl
theorem IsS47.set_4 {w0 W : World} {g : Nat} {f0 : ByteArray} {f1 : Int} {f2 : Int} {f3 : Bool} {f4 : Bool} (h : IsS47 w0 W g f0 f1 f2 f3 f4) (x : Bool) : IsS47 w0 (W.setCell ⟨g, 4, none⟩ (.bool x)) g f0 f1 f2 f3 x := by
  obtain ⟨hb, hg⟩ := h
  exact ⟨by simpa using blk_set hb 4 (.bool x), hg⟩
theorem IsS47.new (w0 W : World) (f0 : ByteArray) (f1 : Int) (f2 : Int) (f3 : Bool) (f4 : Bool) (hB : Below w0.heap.size w0 W) : IsS47 w0 (W.alloc (.cells #[.string f0, .int .i64 f1, .int .i64 f2, .bool f3, .bool f4] 47)) W.heap.size f0 f1 f2 f3 f4 := ⟨by simpa using heap_alloc_new W _, hB.size⟩

/-! ### thresherref17_New: function 18 -/
def thresherref17_New.f (a0 : ByteArray) : Option (ByteArray × Int × Int × Bool × Bool) := some (a0, (a0.size : Int), 0, false, false)
set_option maxHeartbeats 8000000 in
set_option maxRecDepth 100000 in
theorem thresherref17_New.calls (a0 : ByteArray) (r1 : ByteArray) (r2 : Int) (r3 : Int) (r4 : Bool) (r5 : Bool) (w0 w : World) (hB : Below w0.heap.size w0 w) (h : thresherref17_New.f a0 = some (r1, r2, r3, r4, r5)) :
    Calls Try.prog 18 #[.string a0] w fun e w' => ∃ g_ : Nat, e = .returned (.pointer (some ⟨g_, 0, none⟩)) ∧ IsS47 w0 w' g_ r1 r2 r3 r4 r5 ∧ Below w0.heap.size w0 w' ∧ Below w.heap.size w w' := by
  have hu47 := Try.underlying47
  have HBW := Aside0.mk (Below.refl w.heap.size w)
  have HW0 := Aside0.mk hB.size
  have HB := Aside0.mk hB
  clear hB
  have H : (some (a0, (a0.size : Int), 0, false, false)) = some (r1, r2, r3, r4, r5) := h
  clear h
  simp only [Option.some.injEq, Prod.mk.injEq] at H
  obtain ⟨rfl, rfl, rfl, rfl, rfl⟩ := H
  go_enter Try.func18, Try.ntmps18
  go_wp2_with (first | ((with_reducible refine gate_dst (N := 7) rfl ?_); refine box_event ?hg (N := 7) ?hd (cs := #[.string a0, .int .i64 (a0.size : Int), .int .i64 0, .bool false, .bool false]) (t := 47) ?hr ?_; (case hd => rfl); (case hg => rfl); (case hr => first | (go_simp; done) | (go_simp; rfl)); intro gb133 hg w2 hbox hb; have n0_ := Aside0.mk (below_step HBW.out hb); have n1_ := Aside0.mk (below_step (by repeat (first | (with_reducible first | exact HB.out | apply below_alloc | apply pw_below_drewN | apply below_drew1) | exact HB.out)) hb); have n2_ := Aside0.mk (hbox); have n3_ := Aside0.mk ((by rw [hg]; exact (below_size (by repeat (first | (with_reducible first | exact HBW.out | apply below_alloc | apply pw_below_drewN | apply below_drew1) | exact HBW.out))) : w.heap.size ≤ gb133)); have n4_ := Aside0.mk ((Nat.le_trans HW0.out (by rw [hg]; exact (below_size (by repeat (first | (with_reducible first | exact HBW.out | apply below_alloc | apply pw_below_drewN | apply below_drew1) | exact HBW.out))) : w.heap.size ≤ gb133) : w0.heap.size ≤ gb133)); clear HBW; clear HB; have HBW := n0_; have HB := n1_; have BK133 := n2_; have GW133 := n3_; have GE133 := n4_; clear n0_ n1_ n2_ n3_ n4_; clear hb hbox hg))
  go_ret
  exact ⟨_, rfl, (show IsS47 w0 _ gb133 a0 (a0.size : Int) 0 false false from ⟨by (with_reducible repeat (first | refine blk_drewN ?_ _ | refine blk_drew ?_ | refine blk_alloc ?_ _)); exact BK133.out, GE133.out⟩), by repeat (first | (with_reducible first | exact HB.out | apply below_alloc | apply pw_below_drewN | apply below_drew1 | refine below_set ?_ GE133.out) | exact HB.out), by repeat (first | (with_reducible first | exact HBW.out | apply below_alloc | apply pw_below_drewN | apply below_drew1 | refine below_set ?_ GW133.out) | exact HBW.out)⟩

/-! ### thresherlaw0_Within: function 19 -/
def thresherlaw0_Within.f (a0 : Int) (a1 : Int) : Option (Int) := if (IntKind.u64.wrap (a1)) = 0 then (none) else (some (wrap64 (Int.tmod (IntKind.u64.wrap (a0)) (IntKind.u64.wrap (a1)))))
set_option maxHeartbeats 8000000 in
set_option maxRecDepth 100000 in
theorem thresherlaw0_Within.calls (a0 : Int) (a1 : Int) (r : Int) (w : World) (h : thresherlaw0_Within.f a0 a1 = some r) :
    Calls Try.prog 19 #[.int .i64 a0, .int .i64 a1] w fun e w' => e = .returned (.int .i64 r) ∧ Drawn0 w w' := by
  have H : (if (IntKind.u64.wrap (a1)) = 0 then (none) else (some (wrap64 (Int.tmod (IntKind.u64.wrap (a0)) (IntKind.u64.wrap (a1)))))) = some r := h
  clear h
  by_cases c3 : (IntKind.u64.wrap (a1)) = 0
  · rw [if_pos c3] at H
    exact absurd H (by simp)
  · rw [if_neg c3] at H
    have c3b0 : ((IntKind.u64.wrap (a1)) == 0) = false := beq_eq_false_iff_ne.mpr c3
    have c3b1 : ((IntKind.u64.wrap (a1)) != 0) = true := bne_iff_ne.mpr c3
    obtain rfl := Option.some.inj H
    go_enter Try.func19, Try.ntmps19
    go_wp2
    go_ret
    exact ⟨by first | rfl | (simp; done) | (simp [*]; done), by repeat (first | exact Drawn0.refl _ | apply Drawn0.step)⟩

/-! ### disk_Disk_Safe: function 21 -/
def disk_Disk_Safe.f (s0_0 : ByteArray) (s0_1 : Int) (s0_2 : Bool) (s0_3 : Int) : Option (Int × Int × ByteArray × Int × Bool × Int) := (disk_Disk_power.f s0_0 s0_1 s0_2 s0_3).bind fun bt134 => (if bt134.1 = 0 then (some (bt134.2.2.1, 0, bt134.2.1, bt134.2.2.1, bt134.2.2.2.1, bt134.2.2.2.2)) else (some (0, bt134.1, bt134.2.1, bt134.2.2.1, bt134.2.2.2.1, bt134.2.2.2.2)))
set_option maxHeartbeats 8000000 in
set_option maxRecDepth 100000 in
theorem disk_Disk_Safe.calls (g : Nat) (s0_0 : ByteArray) (s0_1 : Int) (s0_2 : Bool) (s0_3 : Int) (r1 : Int) (r2 : Int) (r3 : ByteArray) (r4 : Int) (r5 : Bool) (r6 : Int) (w0 w : World) (hI : IsS54 w0 w g s0_0 s0_1 s0_2 s0_3) (hB : Below w0.heap.size w0 w) (h : disk_Disk_Safe.f s0_0 s0_1 s0_2 s0_3 = some (r1, r2, r3, r4, r5, r6)) :
    Calls Try.prog 21 #[.pointer (some ⟨g, 0, none⟩)] w fun e w' => e = .returned (.tuple #[.int .i64 r1, .int .i64 r2]) ∧ IsS54 w0 w' g r3 r4 r5 r6 ∧ Below w0.heap.size w0 w' ∧ KeepBut w w' g none := by
  have HI0 := Aside0.mk hI
  have HK := Aside0.mk (KeepBut.refl w g none)
  have HL := Aside0.mk hB.size
  clear hI
  have HW0 := Aside0.mk hB.size
  have HB := Aside0.mk hB
  clear hB
  have H : ((disk_Disk_power.f s0_0 s0_1 s0_2 s0_3).bind fun bt134 => (if bt134.1 = 0 then (some (bt134.2.2.1, 0, bt134.2.1, bt134.2.2.1, bt134.2.2.2.1, bt134.2.2.2.2)) else (some (0, bt134.1, bt134.2.1, bt134.2.2.1, bt134.2.2.2.1, bt134.2.2.2.2)))) = some (r1, r2, r3, r4, r5, r6) := h
  clear h
  replace H := Option.bind_eq_some_iff.mp H
  obtain ⟨⟨t134, t135, t136, t137, t138⟩, A20, H⟩ := H
  replace H : (if t134 = 0 then (some (t136, 0, t135, t136, t137, t138)) else (some (0, t134, t135, t136, t137, t138))) = some (r1, r2, r3, r4, r5, r6) := H
  have A2 := Aside0.mk A20
  clear A20
  by_cases c3 : t134 = 0
  · rw [if_pos c3] at H
    have c3b0 : (t134 == 0) = true := beq_iff_eq.mpr c3
    have c3b1 : (t134 != 0) = false := bne_eq_false_iff_eq.mpr c3
    clear c3
    simp only [Option.some.injEq, Prod.mk.injEq] at H
    obtain ⟨rfl, rfl, rfl, rfl, rfl, rfl⟩ := H
    go_enter Try.func21, Try.ntmps21
    go_wp2_with (first | ((with_reducible refine gate_callee (f := 31) rfl ?_); refine goesL_ (some 6) rfl rfl Try.func31 (by kernel_rfl) rfl #[.pointer (some ⟨g, 0, none⟩)] rfl (by (try simp only [List.map_toArray, List.map_cons, List.map_nil]); first | done | rfl | (simp only [List.length_drop, List.length_take]; rfl)) ?_; (with_reducible refine (disk_Disk_power.calls g s0_0 s0_1 s0_2 s0_3 t134 t135 t136 t137 t138 w0 _ ?side1 ?side2 A2.out).mono ?_); (case side1 => repeat (first | (with_reducible first | exact HI0.out | apply IsS54.alloc | apply IsS54.drewN | apply IsS54.drew | apply IsS54.set_0 | apply IsS54.set_1 | apply IsS54.set_2 | apply IsS54.set_3) | exact HI0.out)); (case side2 => repeat (first | (with_reducible first | exact HB.out | apply below_alloc | apply pw_below_drewN | apply below_drew1 | refine below_set ?_ (IsS54.ge HI0.out)) | exact HB.out)); rintro e w4 ⟨rfl, hi, hb, hk⟩; refine ⟨_, rfl, ?_⟩; have n0_ := Aside0.mk (KeepBut.trans (by repeat (first | (with_reducible first | exact HK.out | apply KeepBut.set_ | apply keep_drewN | apply keep_drew | apply keep_alloc) | exact HK.out)) hk (.inl rfl)); have n1_ := Aside0.mk (hb); have n2_ := Aside0.mk (hi); clear HK; clear HB; clear HI0; have HK := n0_; have HB := n1_; have HI0 := n2_; clear n0_ n1_ n2_; (try clear hb); (try clear hb2); (try clear hk); (try clear hi); obtain ⟨HGz5, hgz5⟩ := HI0.out; have hcz5_0 := cellS54_0 HGz5; have hcz5_1 := cellS54_1 HGz5; have hcz5_2 := cellS54_2 HGz5; have hcz5_3 := cellS54_3 HGz5; have hfz5_0 := fun i_ => blk_frozen HGz5 i_; clear HGz5 hgz5))
    go_ret2
    exact ⟨by first | rfl | (simp [errW_none, errW_some] <;> rfl) | (simp [*, errW_none, errW_some] <;> rfl), by repeat (first | (with_reducible first | exact HI0.out | apply IsS54.alloc | apply IsS54.drewN | apply IsS54.drew | apply IsS54.set_0 | apply IsS54.set_1 | apply IsS54.set_2 | apply IsS54.set_3) | exact HI0.out), by repeat (first | (with_reducible first | exact HB.out | apply below_alloc | apply pw_below_drewN | apply below_drew1 | refine below_set ?_ (IsS54.ge HI0.out)) | exact HB.out), by repeat (first | (with_reducible first | exact HK.out | apply KeepBut.set_ | apply keep_drewN | apply keep_drew | apply keep_alloc) | exact HK.out)⟩
  · rw [if_neg c3] at H
    have c3b0 : (t134 == 0) = false := beq_eq_false_iff_ne.mpr c3
    have c3b1 : (t134 != 0) = true := bne_iff_ne.mpr c3
    simp only [Option.some.injEq, Prod.mk.injEq] at H
    obtain ⟨rfl, rfl, rfl, rfl, rfl, rfl⟩ := H
    go_enter Try.func21, Try.ntmps21
    go_wp2_with (first | ((with_reducible refine gate_callee (f := 31) rfl ?_); refine goesL_ (some 6) rfl rfl Try.func31 (by kernel_rfl) rfl #[.pointer (some ⟨g, 0, none⟩)] rfl (by (try simp only [List.map_toArray, List.map_cons, List.map_nil]); first | done | rfl | (simp only [List.length_drop, List.length_take]; rfl)) ?_; (with_reducible refine (disk_Disk_power.calls g s0_0 s0_1 s0_2 s0_3 t134 t135 t136 t137 t138 w0 _ ?side1 ?side2 A2.out).mono ?_); (case side1 => repeat (first | (with_reducible first | exact HI0.out | apply IsS54.alloc | apply IsS54.drewN | apply IsS54.drew | apply IsS54.set_0 | apply IsS54.set_1 | apply IsS54.set_2 | apply IsS54.set_3) | exact HI0.out)); (case side2 => repeat (first | (with_reducible first | exact HB.out | apply below_alloc | apply pw_below_drewN | apply below_drew1 | refine below_set ?_ (IsS54.ge HI0.out)) | exact HB.out)); rintro e w6 ⟨rfl, hi, hb, hk⟩; refine ⟨_, rfl, ?_⟩; have n0_ := Aside0.mk (KeepBut.trans (by repeat (first | (with_reducible first | exact HK.out | apply KeepBut.set_ | apply keep_drewN | apply keep_drew | apply keep_alloc) | exact HK.out)) hk (.inl rfl)); have n1_ := Aside0.mk (hb); have n2_ := Aside0.mk (hi); clear HK; clear HB; clear HI0; have HK := n0_; have HB := n1_; have HI0 := n2_; clear n0_ n1_ n2_; (try clear hb); (try clear hb2); (try clear hk); (try clear hi)))
    go_ret2
    exact ⟨by first | rfl | (simp [errW_none, errW_some] <;> rfl) | (simp [*, errW_none, errW_some] <;> rfl), by repeat (first | (with_reducible first | exact HI0.out | apply IsS54.alloc | apply IsS54.drewN | apply IsS54.drew | apply IsS54.set_0 | apply IsS54.set_1 | apply IsS54.set_2 | apply IsS54.set_3) | exact HI0.out), by repeat (first | (with_reducible first | exact HB.out | apply below_alloc | apply pw_below_drewN | apply below_drew1 | refine below_set ?_ (IsS54.ge HI0.out)) | exact HB.out), by repeat (first | (with_reducible first | exact HK.out | apply KeepBut.set_ | apply keep_drewN | apply keep_drew | apply keep_alloc) | exact HK.out)⟩

/-! ### thresherref17_Disk_counts: function 32 -/
def thresherref17_Disk_counts.f (s0_0 : ByteArray) (s0_1 : Int) (s0_2 : Int) (s0_3 : Bool) (s0_4 : Bool) : Option (Bool × ByteArray × Int × Int × Bool × Bool) := if s0_3 = true then (if (wrap64 (s0_2 - 1)) ≤ 0 then (some (true, s0_0, s0_1, wrap64 (s0_2 - 1), s0_3, true)) else (some (s0_4, s0_0, s0_1, wrap64 (s0_2 - 1), s0_3, s0_4))) else (some (s0_4, s0_0, s0_1, s0_2, s0_3, s0_4))
set_option maxHeartbeats 8000000 in
set_option maxRecDepth 100000 in
theorem thresherref17_Disk_counts.calls (g : Nat) (s0_0 : ByteArray) (s0_1 : Int) (s0_2 : Int) (s0_3 : Bool) (s0_4 : Bool) (r1 : Bool) (r2 : ByteArray) (r3 : Int) (r4 : Int) (r5 : Bool) (r6 : Bool) (w0 w : World) (hI : IsS47 w0 w g s0_0 s0_1 s0_2 s0_3 s0_4) (hB : Below w0.heap.size w0 w) (h : thresherref17_Disk_counts.f s0_0 s0_1 s0_2 s0_3 s0_4 = some (r1, r2, r3, r4, r5, r6)) :
    Calls Try.prog 32 #[.pointer (some ⟨g, 0, none⟩)] w fun e w' => e = .returned (.bool r1) ∧ IsS47 w0 w' g r2 r3 r4 r5 r6 ∧ Below w0.heap.size w0 w' ∧ KeepBut w w' g none := by
  have HI0 := Aside0.mk hI
  have HK := Aside0.mk (KeepBut.refl w g none)
  have HL := Aside0.mk hB.size
  clear hI
  have HW0 := Aside0.mk hB.size
  have HB := Aside0.mk hB
  clear hB
  have H : (if s0_3 = true then (if (wrap64 (s0_2 - 1)) ≤ 0 then (some (true, s0_0, s0_1, wrap64 (s0_2 - 1), s0_3, true)) else (some (s0_4, s0_0, s0_1, wrap64 (s0_2 - 1), s0_3, s0_4))) else (some (s0_4, s0_0, s0_1, s0_2, s0_3, s0_4))) = some (r1, r2, r3, r4, r5, r6) := h
  clear h
  by_cases c2 : s0_3 = true
  · subst c2
    have H1 : (if (wrap64 (s0_2 - 1)) ≤ 0 then (some (true, s0_0, s0_1, wrap64 (s0_2 - 1), true, true)) else (some (s0_4, s0_0, s0_1, wrap64 (s0_2 - 1), true, s0_4))) = some (r1, r2, r3, r4, r5, r6) := by rw [if_pos rfl] at H; exact H
    clear H
    have H := H1
    clear H1
    by_cases c3 : (wrap64 (s0_2 - 1)) ≤ 0
    · rw [if_pos c3] at H
      have c3b0 : decide ((wrap64 (s0_2 - 1)) ≤ 0) = true := decide_eq_true c3
      clear c3
      simp only [Option.some.injEq, Prod.mk.injEq] at H
      obtain ⟨rfl, rfl, rfl, rfl, rfl, rfl⟩ := H
      obtain ⟨HGz4, hgz4⟩ := HI0.out
      have hcz4_0 := cellS47_0 HGz4
      have hcz4_1 := cellS47_1 HGz4
      have hcz4_2 := cellS47_2 HGz4
      have hcz4_3 := cellS47_3 HGz4
      have hcz4_4 := cellS47_4 HGz4
      have hfz4_0 := fun i_ => blk_frozen HGz4 i_
      clear HGz4 hgz4
      go_enter Try.func32, Try.ntmps32
      go_wp2
      go_ret
      exact ⟨by first | rfl | (simp [errW_none, errW_some] <;> rfl) | (simp [*, errW_none, errW_some] <;> rfl), by repeat (first | (with_reducible first | exact HI0.out | apply IsS47.alloc | apply IsS47.drewN | apply IsS47.drew | apply IsS47.set_0 | apply IsS47.set_1 | apply IsS47.set_2 | apply IsS47.set_3 | apply IsS47.set_4) | exact HI0.out), by repeat (first | (with_reducible first | exact HB.out | apply below_alloc | apply pw_below_drewN | apply below_drew1 | refine below_set ?_ (IsS47.ge HI0.out)) | exact HB.out), by repeat (first | (with_reducible first | exact HK.out | apply KeepBut.set_ | apply keep_drewN | apply keep_drew | apply keep_alloc) | exact HK.out)⟩
    · rw [if_neg c3] at H
      have c3b0 : decide ((wrap64 (s0_2 - 1)) ≤ 0) = false := decide_eq_false c3
      clear c3
      simp only [Option.some.injEq, Prod.mk.injEq] at H
      obtain ⟨rfl, rfl, rfl, rfl, rfl, rfl⟩ := H
      obtain ⟨HGz5, hgz5⟩ := HI0.out
      have hcz5_0 := cellS47_0 HGz5
      have hcz5_1 := cellS47_1 HGz5
      have hcz5_2 := cellS47_2 HGz5
      have hcz5_3 := cellS47_3 HGz5
      have hcz5_4 := cellS47_4 HGz5
      have hfz5_0 := fun i_ => blk_frozen HGz5 i_
      clear HGz5 hgz5
      go_enter Try.func32, Try.ntmps32
      go_wp2
      go_ret
      exact ⟨by first | rfl | (simp [errW_none, errW_some] <;> rfl) | (simp [*, errW_none, errW_some] <;> rfl), by repeat (first | (with_reducible first | exact HI0.out | apply IsS47.alloc | apply IsS47.drewN | apply IsS47.drew | apply IsS47.set_0 | apply IsS47.set_1 | apply IsS47.set_2 | apply IsS47.set_3 | apply IsS47.set_4) | exact HI0.out), by repeat (first | (with_reducible first | exact HB.out | apply below_alloc | apply pw_below_drewN | apply below_drew1 | refine below_set ?_ (IsS47.ge HI0.out)) | exact HB.out), by repeat (first | (with_reducible first | exact HK.out | apply KeepBut.set_ | apply keep_drewN | apply keep_drew | apply keep_alloc) | exact HK.out)⟩
  · replace c2 := Bool.eq_false_iff.mpr c2
    subst c2
    have H1 : (some (s0_4, s0_0, s0_1, s0_2, false, s0_4)) = some (r1, r2, r3, r4, r5, r6) := by rw [if_neg (show ¬ (false = true) by decide)] at H; exact H
    clear H
    have H := H1
    clear H1
    simp only [Option.some.injEq, Prod.mk.injEq] at H
    obtain ⟨rfl, rfl, rfl, rfl, rfl, rfl⟩ := H
    obtain ⟨HGz6, hgz6⟩ := HI0.out
    have hcz6_0 := cellS47_0 HGz6
    have hcz6_1 := cellS47_1 HGz6
    have hcz6_2 := cellS47_2 HGz6
    have hcz6_3 := cellS47_3 HGz6
    have hcz6_4 := cellS47_4 HGz6
    have hfz6_0 := fun i_ => blk_frozen HGz6 i_
    clear HGz6 hgz6
    go_enter Try.func32, Try.ntmps32
    go_wp2
    go_ret
    exact ⟨by first | rfl | (simp [errW_none, errW_some] <;> rfl) | (simp [*, errW_none, errW_some] <;> rfl), by repeat (first | (with_reducible first | exact HI0.out | apply IsS47.alloc | apply IsS47.drewN | apply IsS47.drew | apply IsS47.set_0 | apply IsS47.set_1 | apply IsS47.set_2 | apply IsS47.set_3 | apply IsS47.set_4) | exact HI0.out), by repeat (first | (with_reducible first | exact HB.out | apply below_alloc | apply pw_below_drewN | apply below_drew1 | refine below_set ?_ (IsS47.ge HI0.out)) | exact HB.out), by repeat (first | (with_reducible first | exact HK.out | apply KeepBut.set_ | apply keep_drewN | apply keep_drew | apply keep_alloc) | exact HK.out)⟩

end Go.Proofs.Ytlilfbkgkobgmaa.Q
