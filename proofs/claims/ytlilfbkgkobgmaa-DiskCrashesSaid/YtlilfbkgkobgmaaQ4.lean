/- Contracts of the Go functions that these laws reach: each call answers what the plain Lean function beside it says. Written by a program of this session (pp.py). -/
import Derived.Test.YtlilfbkgkobgmaaQ0
import Derived.Test.YtlilfbkgkobgmaaQ1
import Derived.Test.YtlilfbkgkobgmaaQ2
import Derived.Test.YtlilfbkgkobgmaaQ3
namespace Go.Proofs.Ytlilfbkgkobgmaa.Q
open Go.RowKit Go.Proofs.YtlilfbkgkobgmaaW.PrintWords Go.Proofs.YtlilfbkgkobgmaaW.PrintLast Go.Proofs.YtlilfbkgkobgmaaW.PrintMore
attribute [local go_sem] max2_int min2_int max_two min_two max_three min_three max_four min_four   -- for this text's walks alone
set_option linter.unusedVariables false
set_option linter.unusedSimpArgs false

/-! ### thresherlaw17_DiskExact: function 4 -/
namespace DiskExact
open Go.Proofs.Ytlilfbkgkobgmaa.Bits7 DiskWakes
/-! ### Cut -/
def cut (s0 : ByteArray) (s1 : Int) (s2 : Bool) (s3 : Int) (a1 : Int) : Option (Int × ByteArray × Int × Bool × Int) := (disk_Disk_counts.f s0 s1 s2 s3).bind fun t => if t.1 = 0 then (if a1 < 0 then some (1, t.2.1, t.2.2.1, t.2.2.2.1, t.2.2.2.2) else if a1 > (t.2.1.size : Int) then some (1, t.2.1, t.2.2.1, t.2.2.2.1, t.2.2.2.2) else some (0, t.2.1.extract 0 a1.toNat, mn t.2.2.1 a1, t.2.2.2.1, t.2.2.2.2)) else some (t.1, t.2.1, t.2.2.1, t.2.2.2.1, t.2.2.2.2)
set_option maxHeartbeats 8000000 in
set_option maxRecDepth 100000 in
theorem cut_calls (g : Nat) (s0 : ByteArray) (s1 : Int) (s2 : Bool) (s3 : Int) (a1 : Int) (r1 : Int) (r2 : ByteArray) (r3 : Int) (r4 : Bool) (r5 : Int) (w0 w : World) (hI : IsS54 w0 w g s0 s1 s2 s3) (hB : Below w0.heap.size w0 w) (h : cut s0 s1 s2 s3 a1 = some (r1, r2, r3, r4, r5)) :
    Calls Try.prog 23 #[.pointer (some ⟨g, 0, none⟩), .int .i64 a1] w fun e w' => e = .returned (.int .i64 r1) ∧ IsS54 w0 w' g r2 r3 r4 r5 ∧ Below w0.heap.size w0 w' ∧ KeepBut w w' g none := by
  have HI0 := Aside0.mk hI
  have HG := Aside0.mk hI.ge
  clear hI
  have HB := Aside0.mk hB
  clear hB
  obtain ⟨⟨t1, t2, t3, t4, t5⟩, A0, H⟩ := Option.bind_eq_some_iff.mp h
  have A := Aside0.mk A0
  clear A0 h
  simp only at H
  by_cases h0 : t1 = 0
  case neg =>
    rw [if_neg h0] at H
    have h0a : (t1 == 0) = false := beq_eq_false_iff_ne.mpr h0
    have h0b : (t1 != 0) = true := bne_iff_ne.mpr h0
    clear h0
    simp only [Option.some.injEq, Prod.mk.injEq] at H
    obtain ⟨rfl, rfl, rfl, rfl, rfl⟩ := H
    go_enter Try.func23, Try.ntmps23
    go_wp2_with (first | (go_at_call 30; refine (disk_Disk_counts.calls g s0 s1 s2 s3 t1 t2 t3 t4 t5 w0 _ HI0.out HB.out A.out).mono ?_; rintro e w5 ⟨rfl, hi, hb, hk⟩; have HI1 := Aside0.mk hi; have HB1 := Aside0.mk hb; have HK1 := Aside0.mk hk; clear hi hb hk))
    go_ret
    exact ⟨rfl, HI1.out, HB1.out, HK1.out⟩
  rw [if_pos h0] at H
  subst h0
  by_cases hn : a1 < 0
  · rw [if_pos hn] at H
    have hn1 : decide (a1 < 0) = true := decide_eq_true hn
    clear hn
    simp only [Option.some.injEq, Prod.mk.injEq] at H
    obtain ⟨rfl, rfl, rfl, rfl, rfl⟩ := H
    go_enter Try.func23, Try.ntmps23
    go_wp2_with (first | (go_at_call 30; refine (disk_Disk_counts.calls g s0 s1 s2 s3 0 t2 t3 t4 t5 w0 _ HI0.out HB.out A.out).mono ?_; rintro e w5 ⟨rfl, hi, hb, hk⟩; have HI1 := Aside0.mk hi; have HB1 := Aside0.mk hb; have HK1 := Aside0.mk hk; obtain ⟨hd0, hd1, hd2, hd3⟩ := cells4 hi.1; have hfz := fun i_ => blk_frozen hi.1 i_; clear hi hb hk))
    go_ret
    exact ⟨rfl, HI1.out, HB1.out, HK1.out⟩
  rw [if_neg hn] at H
  by_cases hm : a1 > (t2.size : Int)
  · rw [if_pos hm] at H
    have hn1 : decide (a1 < 0) = false := decide_eq_false hn
    have hm1 : decide (a1 > (t2.size : Int)) = true := decide_eq_true hm
    clear hn hm
    simp only [Option.some.injEq, Prod.mk.injEq] at H
    obtain ⟨rfl, rfl, rfl, rfl, rfl⟩ := H
    go_enter Try.func23, Try.ntmps23
    go_wp2_with (first | (go_at_call 30; refine (disk_Disk_counts.calls g s0 s1 s2 s3 0 t2 t3 t4 t5 w0 _ HI0.out HB.out A.out).mono ?_; rintro e w5 ⟨rfl, hi, hb, hk⟩; have HI1 := Aside0.mk hi; have HB1 := Aside0.mk hb; have HK1 := Aside0.mk hk; obtain ⟨hd0, hd1, hd2, hd3⟩ := cells4 hi.1; have hfz := fun i_ => blk_frozen hi.1 i_; clear hi hb hk))
    go_ret
    exact ⟨rfl, HI1.out, HB1.out, HK1.out⟩
  rw [if_neg hm] at H
  have hn1 : decide (a1 < 0) = false := decide_eq_false hn
  have hm1 : decide (a1 > (t2.size : Int)) = false := decide_eq_false hm
  have hp1 : decide (0 ≤ a1) = true := decide_eq_true (by omega)
  have hp2 : decide (a1 ≤ (t2.size : Int)) = true := decide_eq_true (by omega)
  have hp3 : (0 ≤ a1) = True := eq_true (by omega)
  have hp4 : (a1 ≤ (t2.size : Int)) = True := eq_true (by omega)
  clear hn hm
  obtain ⟨j, hj⟩ : ∃ j : Int, mn t3 a1 = j := ⟨_, rfl⟩
  rw [hj] at H
  have hj_ : (if a1 < t3 then a1 else t3) = j := hj
  simp only [Option.some.injEq, Prod.mk.injEq] at H
  obtain ⟨rfl, rfl, rfl, rfl, rfl⟩ := H
  go_enter Try.func23, Try.ntmps23
  go_wp2_with (first | (go_at_call 30; refine (disk_Disk_counts.calls g s0 s1 s2 s3 0 t2 t3 t4 t5 w0 _ HI0.out HB.out A.out).mono ?_; rintro e w5 ⟨rfl, hi, hb, hk⟩; have HI1 := Aside0.mk hi; have HB1 := Aside0.mk hb; have HK1 := Aside0.mk hk; obtain ⟨hd0, hd1, hd2, hd3⟩ := cells4 hi.1; have hfz := fun i_ => blk_frozen hi.1 i_; clear hi hb hk))
  go_region
  go_wp2
  go_ret
  exact ⟨rfl, ((HI1.out.set_0 _).set_1 _).drew, below_drew1 (below_set (below_set HB1.out HG.out) HG.out), keep_drew ((HK1.out.set_ _ _).set_ _ _)⟩

def Rel (s : ByteArray) (n : Int) (off : Bool) (left l2 : Int) (armed : Bool) : Prop :=
  0 ≤ n ∧ n ≤ (s.size : Int) ∧ s.size ≤ 131072 ∧ left ≤ 9223372036854775807 ∧ (off = true → left ≤ 0) ∧ (off = false → (armed = true → left = l2 ∧ 1 ≤ left) ∧ (armed = false → left ≤ 0))
theorem rel_new (s : ByteArray) (h : s.size ≤ 131072) : Rel s (s.size : Int) false (-1) 0 false := ⟨by omega, by omega, h, by omega, (fun h => by cases h), (fun _ => ⟨(fun h => by cases h), (fun _ => by omega)⟩)⟩
theorem counts_eq {s : ByteArray} {n : Int} {off : Bool} {left l2 : Int} {armed : Bool} (h : Rel s n off left l2 armed) : ∃ off' left' l2', disk_Disk_counts.f s n off left = some (if off' = true then 12 else 0, s, n, off', left') ∧ thresherref17_Disk_counts.f s n l2 armed off = some (off', s, n, l2', armed, off') ∧ Rel s n off' left' l2' armed := by
  obtain ⟨h1, h2, h3, h4, h5, h6⟩ := h
  cases off with
  | true =>
    have h5 := h5 rfl
    have e1 : disk_Disk_counts.f s n true left = some (12, s, n, true, left) := by
      unfold disk_Disk_counts.f disk_Disk_power.f
      rw [if_neg (by omega)]
      rfl
    cases armed with
    | true =>
      refine ⟨true, left, wrap64 (l2 - 1), e1, ?_, ⟨h1, h2, h3, h4, fun _ => h5, fun h => by cases h⟩⟩
      unfold thresherref17_Disk_counts.f
      rw [if_pos rfl]
      split <;> rfl
    | false => exact ⟨true, left, l2, e1, rfl, ⟨h1, h2, h3, h4, fun _ => h5, fun h => by cases h⟩⟩
  | false =>
    obtain ⟨h7, h8⟩ := h6 rfl
    cases armed with
    | true =>
      obtain ⟨rfl, h9⟩ := h7 rfl
      have ew : wrap64 (left - 1) = left - 1 := w64 (by omega) (by omega)
      by_cases hl : left = 1
      · subst hl
        exact ⟨true, 0, 0, by simp [disk_Disk_counts.f, disk_Disk_power.f, wrap64], by simp [thresherref17_Disk_counts.f, wrap64], ⟨h1, h2, h3, by omega, (fun _ => by omega), (fun h => by cases h)⟩⟩
      · refine ⟨false, left - 1, left - 1, ?_, ?_, ⟨h1, h2, h3, by omega, fun h => (by cases h), fun _ => ⟨fun _ => ⟨rfl, by omega⟩, fun h => by cases h⟩⟩⟩
        · unfold disk_Disk_counts.f disk_Disk_power.f
          rw [if_pos (by omega), ew, show (left - 1 == 0) = false from beq_eq_false_iff_ne.mpr (by omega)]
          rfl
        · unfold thresherref17_Disk_counts.f
          rw [if_pos rfl, ew, if_neg (by omega)]
    | false =>
      have h8 := h8 rfl
      refine ⟨false, left, l2, ?_, rfl, ⟨h1, h2, h3, h4, fun h => (by cases h), fun _ => ⟨fun h => (by cases h), fun _ => h8⟩⟩⟩
      unfold disk_Disk_counts.f disk_Disk_power.f
      rw [if_neg (by omega)]
      rfl
theorem rel_keep {s s' : ByteArray} {n n' : Int} {off : Bool} {left l2 : Int} {armed : Bool} (h : Rel s n off left l2 armed) (h1 : 0 ≤ n') (h2 : n' ≤ (s'.size : Int)) (h3 : s'.size ≤ 131072) : Rel s' n' off left l2 armed := ⟨h1, h2, h3, h.2.2.2⟩
theorem append_eq {s : ByteArray} {n : Int} {off : Bool} {left l2 : Int} {armed : Bool} (h : Rel s n off left l2 armed) (a : ByteArray) : ∃ r s' n' off' left' l2', disk_Disk_Append.f s n off left a = some (r, s', n', off', left') ∧ thresherref17_Disk_Append.f s n l2 armed off a = some (r, s', n', l2', armed, off') ∧ Rel s' n' off' left' l2' armed := by
  obtain ⟨off', left', l2', e1, e2, hR⟩ := counts_eq h
  obtain ⟨h1, h2, h3, _⟩ := h
  have ew : wrap64 (131072 - (s.size : Int)) = 131072 - (s.size : Int) := w64 (by omega) (by omega)
  unfold disk_Disk_Append.f thresherref17_Disk_Append.f
  rw [e1, e2]
  cases off' with
  | true => exact ⟨12, s, n, true, left', l2', rfl, rfl, hR⟩
  | false =>
    simp only [Option.bind_some, ew]
    by_cases hl : (a.size : Int) > 131072 - (s.size : Int)
    · refine ⟨5, s, n, false, left', l2', ?_, ?_, hR⟩ <;> simp [hl]
    · have hs : s.size + a.size ≤ 9223372036854775807 := by omega
      refine ⟨0, s ++ a, n, false, left', l2', ?_, ?_, rel_keep hR h1 (by rw [ByteArray.size_append]; omega) (by rw [ByteArray.size_append]; omega)⟩ <;> simp [hl, hs]
theorem sync_eq {s : ByteArray} {n : Int} {off : Bool} {left l2 : Int} {armed : Bool} (h : Rel s n off left l2 armed) : ∃ r s' n' off' left' l2', disk_Disk_Sync.f s n off left = some (r, s', n', off', left') ∧ thresherref17_Disk_Sync.f s n l2 armed off = some (r, s', n', l2', armed, off') ∧ Rel s' n' off' left' l2' armed := by
  obtain ⟨off', left', l2', e1, e2, hR⟩ := counts_eq h
  obtain ⟨h1, h2, h3, _⟩ := h
  unfold disk_Disk_Sync.f thresherref17_Disk_Sync.f
  rw [e1, e2]
  cases off' with
  | true => exact ⟨12, s, n, true, left', l2', rfl, rfl, hR⟩
  | false => exact ⟨0, s, (s.size : Int), false, left', l2', rfl, rfl, rel_keep hR (by omega) (by omega) h3⟩
theorem num_eq (a c : Int) : thresherref0_Num.f a c = some (decide (0 ≤ a ∧ a ≤ c)) := by
  unfold thresherref0_Num.f
  by_cases h : a ≥ 0
  · rw [if_pos h]
    congr 1
    simp
    omega
  · rw [if_neg h]
    congr 1
    simp
    omega
theorem cut_eq {s : ByteArray} {n : Int} {off : Bool} {left l2 : Int} {armed : Bool} (h : Rel s n off left l2 armed) (a : Int) : ∃ r s' n' off' left' l2', cut s n off left a = some (r, s', n', off', left') ∧ thresherref17_Disk_Cut.f s n l2 armed off a = some (r, s', n', l2', armed, off') ∧ Rel s' n' off' left' l2' armed := by
  obtain ⟨off', left', l2', e1, e2, hR⟩ := counts_eq h
  obtain ⟨h1, h2, h3, _⟩ := h
  unfold cut thresherref17_Disk_Cut.f
  rw [e1, e2]
  cases off' with
  | true => exact ⟨12, s, n, true, left', l2', rfl, rfl, hR⟩
  | false =>
    simp only [Option.bind_some, num_eq]
    by_cases ha : 0 ≤ a ∧ a ≤ (s.size : Int)
    · have hz : (s.extract 0 a.toNat).size = a.toNat := by rw [ByteArray.size_extract]; omega
      have hm : mn n a = if a < n then a else n := rfl
      refine ⟨0, s.extract 0 a.toNat, mn n a, false, left', l2', ?_, ?_, rel_keep hR ?_ ?_ ?_⟩
      · have g1 : ¬ a < 0 := by omega
        have g2 : ¬ a > (s.size : Int) := by omega
        simp [g1, g2]
      · simp [ha.1, ha.2]
      · rw [hm]; split <;> omega
      · rw [hm, hz]; split <;> omega
      · omega
    · refine ⟨1, s, n, false, left', l2', ?_, ?_, hR⟩
      · by_cases g1 : a < 0
        · simp [g1]
        · have g2 : a > (s.size : Int) := by omega
          simp [g1, g2]
      · simp only [decide_eq_false ha]
        rfl
theorem swap_eq {s : ByteArray} {n : Int} {off : Bool} {left l2 : Int} {armed : Bool} (h : Rel s n off left l2 armed) (a : ByteArray) : ∃ r s' n' off' left' l2', disk_Disk_Swap.f s n off left a = some (r, s', n', off', left') ∧ thresherref17_Disk_Swap.f s n l2 armed off a = some (r, s', n', l2', armed, off') ∧ Rel s' n' off' left' l2' armed := by
  obtain ⟨off', left', l2', e1, e2, hR⟩ := counts_eq h
  unfold disk_Disk_Swap.f thresherref17_Disk_Swap.f
  rw [e1, e2]
  cases off' with
  | true => exact ⟨12, s, n, true, left', l2', rfl, rfl, hR⟩
  | false =>
    simp only [Option.bind_some]
    by_cases hl : (a.size : Int) > 131072
    · refine ⟨5, s, n, false, left', l2', ?_, ?_, hR⟩ <;> simp [hl]
    · refine ⟨0, a, (a.size : Int), false, left', l2', ?_, ?_, rel_keep hR (by omega) (by omega) (by omega)⟩ <;> simp [hl]
theorem off_eq {s : ByteArray} {n : Int} {off : Bool} {left l2 : Int} {armed : Bool} (h : Rel s n off left l2 armed) (a : Int) (ha : a ≤ 9223372036854775807) : ∃ off' left' l2' armed', disk_Disk_Off.f s n off left a = some (s, n, off', left') ∧ thresherref17_Disk_Arm.f s n l2 armed off a = some (s, n, l2', armed', off') ∧ Rel s n off' left' l2' armed' := by
  obtain ⟨h1, h2, h3, h4, h5, h6⟩ := h
  have hm : mx a 0 = if a < 0 then 0 else a := by
    unfold mx
    first | rfl | (split <;> split <;> omega)
  unfold disk_Disk_Off.f thresherref17_Disk_Arm.f
  cases off with
  | true =>
    by_cases hn : a < 1
    · exact ⟨true, left, l2, armed, rfl, by rw [if_pos hn], ⟨h1, h2, h3, h4, h5, h6⟩⟩
    · exact ⟨true, left, a, true, rfl, by rw [if_neg hn], ⟨h1, h2, h3, h4, h5, fun h => by cases h⟩⟩
  | false =>
    by_cases hn : a < 1
    · have hz : mx a 0 = 0 := by rw [hm]; split <;> omega
      refine ⟨true, 0, l2, armed, ?_, by rw [if_pos hn], ⟨h1, h2, h3, by omega, fun _ => by omega, fun h => by cases h⟩⟩
      rw [if_neg (by decide), decide_eq_true hn, hz]
    · have hz : mx a 0 = a := by rw [hm]; split <;> omega
      refine ⟨false, a, a, true, ?_, by rw [if_neg hn], ⟨h1, h2, h3, ha, fun h => (by cases h), fun _ => ⟨fun _ => ⟨rfl, by omega⟩, fun h => by cases h⟩⟩⟩
      rw [if_neg (by decide), decide_eq_false hn, hz]
theorem crash_eq {s : ByteArray} {n : Int} {off : Bool} {left l2 : Int} {armed : Bool} (h : Rel s n off left l2 armed) (a : Int) : ∃ t : ByteArray, disk_Disk_Crash.f s n off left a = some (t, s, n, true, left) ∧ thresherref17_Disk_Crash.f s n l2 armed off a = some (t, s, n, l2, armed, true) ∧ t.size ≤ 131072 := by
  obtain ⟨h1, h2, h3, _⟩ := h
  have e1 : wrap64 ((s.size : Int) - n) = (s.size : Int) - n := w64 (by omega) (by omega)
  have b1 : 0 ≤ mx 0 (mn a ((s.size : Int) - n)) ∧ mx 0 (mn a ((s.size : Int) - n)) ≤ (s.size : Int) - n := by
    unfold mx mn
    split <;> split <;> omega
  have e2 : wrap64 (n + mx 0 (mn a ((s.size : Int) - n))) = n + mx 0 (mn a ((s.size : Int) - n)) := w64 (by omega) (by omega)
  unfold disk_Disk_Crash.f thresherref17_Disk_Crash.f
  rw [e1, e2]
  have g1 : 0 ≤ n + mx 0 (mn a ((s.size : Int) - n)) := by omega
  have g2 : n + mx 0 (mn a ((s.size : Int) - n)) ≤ (s.size : Int) := by omega
  refine ⟨_, by rw [if_pos g1, if_pos g2], by rw [if_pos g1, if_pos g2], ?_⟩
  rw [ByteArray.size_extract]
  omega
theorem read_eq (s : ByteArray) (n : Int) (off : Bool) (left : Int) : disk_Disk_Read.f s n off left = some (if off = true then ⟨#[]⟩ else s, if off = true then 12 else 0, s, n, off, left) := by
  cases off <;> rfl
theorem safe_eq (s : ByteArray) (n : Int) (off : Bool) (left : Int) : disk_Disk_Safe.f s n off left = some (if off = true then 0 else n, if off = true then 12 else 0, s, n, off, left) := by
  cases off <;> rfl
theorem keepR {w0 W W1 : World} {g g2 : Nat} {f0 : ByteArray} {f1 f2 : Int} {f3 f4 : Bool} (h : IsS47 w0 W g f0 f1 f2 f3 f4) (hk : KeepBut W W1 g2 none) (hne : g ≠ g2) : IsS47 w0 W1 g f0 f1 f2 f3 f4 := ⟨(hk.2 g h.lt hne (by simp)).trans h.1, h.2⟩
theorem keepD {w0 W W1 : World} {g g2 : Nat} {f0 : ByteArray} {f1 : Int} {f2 : Bool} {f3 : Int} (h : IsS54 w0 W g f0 f1 f2 f3) (hk : KeepBut W W1 g2 none) (hne : g ≠ g2) : IsS54 w0 W1 g f0 f1 f2 f3 := ⟨(hk.2 g h.lt hne (by simp)).trans h.1, h.2⟩
theorem within_eq (a : Int) : ∃ v : Int, thresherlaw0_Within.f a 12 = some v ∧ 0 ≤ v ∧ v < 12 := by
  unfold thresherlaw0_Within.f
  have e12 : IntKind.u64.wrap 12 = 12 := rfl
  rw [e12, if_neg (by decide)]
  have hu := wrap_u64 a
  refine ⟨_, rfl, ?_⟩
  rw [hu]
  have h1 : 0 ≤ a % 18446744073709551616 := by omega
  have h2 : Int.tmod (a % 18446744073709551616) 12 = (a % 18446744073709551616) % 12 := Int.tmod_eq_emod_of_nonneg h1
  rw [h2, w64 (by omega) (by omega)]
  omega
/-- What is known of the world between two steps. -/
structure At (w W : World) (gb gd gr : Nat) (S : ByteArray) (A : Option Addr) (len c : Nat) (s : ByteArray) (n : Int) (off : Bool) (left l2 : Int) (armed : Bool) : Prop where
  box : W.heap[gb]? = some (.cells #[.string S, .slice A len c] 24 (0, 0))
  d : IsS54 w W gd s n off left
  r : IsS47 w W gr s n l2 armed off
  rel : Rel s n off left l2 armed
  below : Below w.heap.size w W
theorem At.step {w W W1 : World} {gb gd gr : Nat} {S : ByteArray} {A : Option Addr} {len c : Nat} {s : ByteArray} {n : Int} {off : Bool} {left l2 : Int} {armed : Bool} (h : At w W gb gd gr S A len c s n off left l2 armed) (hb : Below W.heap.size W W1) : At w W1 gb gd gr S A len c s n off left l2 armed :=
  ⟨blk_below h.box hb, h.d.below hb, h.r.below hb, h.rel, below_step h.below hb⟩
theorem At.neDR {w W : World} {gb gd gr : Nat} {S : ByteArray} {A : Option Addr} {len c : Nat} {s : ByteArray} {n : Int} {off : Bool} {left l2 : Int} {armed : Bool} (h : At w W gb gd gr S A len c s n off left l2 armed) : gd ≠ gr ∧ gd ≠ gb ∧ gr ≠ gb :=
  ⟨h.d.ne_blk h.r.1 (by decide), h.d.ne_blk h.box (by decide), h.r.ne_blk h.box (by decide)⟩
/-- Both sides have gone on. -/
theorem At.both {w W W1 W2 : World} {gb gd gr : Nat} {S : ByteArray} {A : Option Addr} {len c : Nat} {s s' : ByteArray} {n n' : Int} {off off' : Bool} {left l2 left' l2' : Int} {armed armed' : Bool} (h : At w W gb gd gr S A len c s n off left l2 armed) (hd : IsS54 w W1 gd s' n' off' left') (hk : KeepBut W W1 gd none) (hr : IsS47 w W2 gr s' n' l2' armed' off') (hb : Below w.heap.size w W2) (hk2 : KeepBut W1 W2 gr none) (hrel : Rel s' n' off' left' l2' armed') : At w W2 gb gd gr S A len c s' n' off' left' l2' armed' := by
  obtain ⟨h1, h2, h3⟩ := h.neDR
  exact ⟨keepB (keepB h.box hk (Ne.symm h2)) hk2 (Ne.symm h3), keepD hd hk2 h1, hr, hrel, hb⟩
theorem At.box2 {w W W1 W2 : World} {g gd gr : Nat} {cs : Array Value} {t : TypeId} {fr : Nat × Nat} (h : W.heap[g]? = some (.cells cs t fr)) (hk : KeepBut W W1 gd none) (hk2 : KeepBut W1 W2 gr none) (h1 : g ≠ gd) (h2 : g ≠ gr) : W2.heap[g]? = some (.cells cs t fr) := keepB (keepB h hk h1) hk2 h2

/-- After the calls of both sides: what is compared. -/
theorem rd_mem {L : List S40} {i : Int} (h0 : 0 ≤ i) (h1 : i < (L.length : Int)) : rd_T40 L i ∈ L := by
  unfold rd_T40
  rw [List.getD_eq_getElem?_getD, List.getElem?_eq_getElem (by omega)]
  exact List.getElem_mem _
set_option maxHeartbeats 40000000 in
set_option maxRecDepth 100000 in
theorem exact_calls (K : Nat) (S : ByteArray) (A : Option Addr) (c : Nat) (L : List S40) (w : World) (hr : Kd.C k40 w A L.length L) (hc : L.length ≤ c) (hh : thresherlaw17_heavy.f K S L = some false) (hS : S.size ≤ 131072) (hL : ∀ x ∈ L, x.f1 ≤ 9223372036854775807) :
    Calls Try.prog 4 #[.agg #[.string S, .slice A L.length c]] w fun e w' => e = .returned (.bool true) ∧ Below w.heap.size w w' := by
  have hu24 := Try.underlying24
  have HR := Aside0.mk hr
  have HC := Aside0.mk hc
  have HL := Aside0.mk hL
  have HH := Aside0.mk hh
  have HS := Aside0.mk hS
  have hlen : (L.length : Int) ≤ 9223372036854775807 := by have := hr.2.1; omega
  clear hr hc hL hh hS
  have HB := Aside0.mk (Below.refl w.heap.size w)
  go_enter Try.func4, Try.ntmps4
  go_wp2_with (first
    | ((with_reducible refine gate_dst (N := 1) rfl ?_); refine box_event ?hg (N := 1) ?hd (cs := #[.string S, .slice A L.length c]) (t := 24) ?hr ?_; (case hd => rfl); (case hg => rfl); (case hr => first | (go_simp; done) | (go_simp; rfl)); intro gb hg w2 hbox hb; have n0_ := Aside0.mk (below_step HB.out hb); have BK := Aside0.mk hbox; clear HB; have HB := n0_; clear n0_; clear hb hbox hg; obtain ⟨hz0, hz1⟩ := cells2 BK.out; have hzf := fun i_ => blk_frozen BK.out i_)
    | (go_at_call 17; (with_reducible refine (thresherlaw17_heavy.calls K S A c L false _ ?s1 ?s2 HH.out).mono ?_); (case s1 => exact Kd.C_below HR.out HB.out); (case s2 => exact HC.out); rintro e w3 ⟨rfl, hb⟩; have n0_ := Aside0.mk (below_step HB.out hb); have n1_ := Aside0.mk (blk_below BK.out hb); clear HB BK hz0 hz1 hzf; have HB := n0_; have BK := n1_; clear n0_ n1_ hb; obtain ⟨hz0, hz1⟩ := cells2 BK.out; have hzf := fun i_ => blk_frozen BK.out i_)
    | (go_at_call 9; (with_reducible refine (new_ok S HS.out w _ HB.out).mono ?_); rintro e w4 ⟨gd, rfl, hi, hb, hb2, hgd⟩; have HD := Aside0.mk hi; have n1_ := Aside0.mk (blk_below BK.out hb2); clear HB BK hz0 hz1 hzf; have HB := Aside0.mk hb; have BK := n1_; clear n1_ hi hb hb2 hgd; obtain ⟨hz0, hz1⟩ := cells2 BK.out; have hzf := fun i_ => blk_frozen BK.out i_)
    | (go_at_call 10; (with_reducible refine (thresherlaw17_num.calls 0 0 _ rfl).mono ?_); rintro e w5 ⟨rfl, hd⟩; have hb := hd.below; have n0_ := Aside0.mk (below_step HB.out hb); have n1_ := Aside0.mk (blk_below BK.out hb); have n2_ := Aside0.mk (HD.out.below hb); clear HB BK HD hz0 hz1 hzf hd hb; have HB := n0_; have BK := n1_; have HD := n2_; clear n0_ n1_ n2_; obtain ⟨hz0, hz1⟩ := cells2 BK.out; have hzf := fun i_ => blk_frozen BK.out i_)
    | (go_at_call 18; (with_reducible refine (thresherref17_New.calls S _ _ _ _ _ w _ HB.out rfl).mono ?_); rintro e w6 ⟨gr, rfl, hi, hb, hb2⟩; have HQ := Aside0.mk hi; have n1_ := Aside0.mk (blk_below BK.out hb2); have n2_ := Aside0.mk (HD.out.below hb2); clear HB BK HD hz0 hz1 hzf; have HB := Aside0.mk hb; have BK := n1_; have HD := n2_; clear n1_ n2_ hi hb hb2; obtain ⟨hz0, hz1⟩ := cells2 BK.out; have hzf := fun i_ => blk_frozen BK.out i_))
  clear hz0 hz1 hzf
  go_loopg [3, 5, 6] 40 (fun m v3 v5 v6 w' => ∃ (i : Int) (gd gr : Nat) (s : ByteArray) (n : Int) (off : Bool) (left l2 : Int) (armed : Bool), v3 = .pointer (some ⟨gd, 0, none⟩) ∧ v5 = .pointer (some ⟨gr, 0, none⟩) ∧ v6 = .int .i64 i ∧ Aside0 (0 ≤ i ∧ i + m = 40) ∧ Aside0 (At w w' gb gd gr S A L.length c s n off left l2 armed))
  case atStart => exact ⟨0, gd, gr, S, (S.size : Int), false, -1, 0, false, rfl, rfl, rfl, ⟨by omega⟩, ⟨⟨BK.out, HD.out, HQ.out, rel_new S HS.out, HB.out⟩⟩⟩
  case round =>
    clear BK HD HQ HB
    obtain ⟨i, gd, gr, s, n, off, left, l2, armed, rfl, rfl, rfl, HI, AT⟩ := hrel
    obtain ⟨hz0, hz1⟩ := cells2 AT.out.box
    have hzf := fun i_ => blk_frozen AT.out.box i_
    have h0 : 0 ≤ i := HI.out.1
    by_cases hlt : i < (L.length : Int)
    · by_cases h40 : i < 40
      · obtain ⟨m, rfl⟩ : ∃ m, gk = m + 1 := ⟨gk - 1, by have := HI.out.2; omega⟩
        have hlt1 : decide (i < (L.length : Int)) = true := decide_eq_true hlt
        have h401 : decide (i < 40) = true := decide_eq_true h40
        have p1 : (0 ≤ i) = True := eq_true h0
        have q1 : (i < (L.length : Int)) = True := eq_true hlt
        obtain ⟨ad, e1, hx0, hx1, hx2⟩ := at_T40 HR.out i h0 hlt
        cases e1
        replace hx0 := (AT.out.below.cell (World.block_lt_of_cell? w _ hx0)).trans hx0
        replace hx1 := (AT.out.below.cell (World.block_lt_of_cell? w _ hx1)).trans hx1
        replace hx2 := (AT.out.below.cell (World.block_lt_of_cell? w _ hx2)).trans hx2
        obtain ⟨v, hv, hv0, hv1⟩ := within_eq (rd_T40 L i).f0
        have HV := Aside0.mk hv
        clear hv
        obtain rfl | rfl | rfl | rfl | rfl | rfl | rfl | rfl | rfl | rfl | rfl | rfl : v = 0 ∨ v = 1 ∨ v = 2 ∨ v = 3 ∨ v = 4 ∨ v = 5 ∨ v = 6 ∨ v = 7 ∨ v = 8 ∨ v = 9 ∨ v = 10 ∨ v = 11 := by omega
        all_goals clear hv0 hv1
        · -- 0
          have RL := Aside0.mk AT.out.rel
          cases off with
          | true =>
            have ED := Aside0.mk (show disk_Disk_Read.f s n true left = some (⟨#[]⟩, 12, s, n, true, left) from read_eq s n true left)
            have ES := Aside0.mk (show disk_Disk_Safe.f s n true left = some (0, 12, s, n, true, left) from safe_eq s n true left)
            go_wp2_with (first
              | ((with_reducible refine gate_dst (N := 7) rfl ?_); refine box_event ?hg (N := 7) ?hd (cs := #[.int .i64 0, .int .i64 0, .string (⟨#[]⟩ : ByteArray)]) (t := 40) ?hr ?_; (case hd => rfl); (case hg => rfl); (case hr => first | (go_simp; done) | (go_simp; rfl)); intro ga hg w7 hbox hb; have HBA := Aside0.mk hb; have HGA : Aside0 (wr.heap.size ≤ ga) := ⟨Nat.le_of_eq hg.symm⟩; have BA := Aside0.mk hbox; have NA : Aside0 (gd ≠ ga ∧ gr ≠ ga) := ⟨by have h1_ := AT.out.d.lt; omega, by have h1_ := AT.out.r.lt; omega⟩; clear hb hbox hg; obtain ⟨hca0, hca1, hca2⟩ := cells3 BA.out; have hfa := fun i_ => blk_frozen BA.out i_)
              | (go_at_call 19; (with_reducible refine (thresherlaw0_Within.calls _ _ _ _ HV.out).mono ?_); rintro e w8 ⟨rfl, hd⟩; have hb := hd.below; have n0_ := Aside0.mk ((AT.out.step (below_set (below_set (below_set HBA.out HGA.out) HGA.out) HGA.out)).step hb); have n1_ := Aside0.mk (show w8.heap[ga]? = some (.cells #[.int .i64 (rd_T40 L i).f0, .int .i64 (rd_T40 L i).f1, .string (rd_T40 L i).f2] 40 (0, 0)) from blk_below (blk_put (blk_put (blk_put BA.out 0 _ rfl) 1 _ rfl) 2 _ rfl) hb); clear BA hca0 hca1 hca2 hfa hd hb hz0 hz1 HBA HGA; have BA := n1_; have BK := Aside0.mk n0_.out.box; have HD := Aside0.mk n0_.out.d; have HQ := Aside0.mk n0_.out.r; have HB := Aside0.mk n0_.out.below; have NE := Aside0.mk (show gd ≠ gr ∧ gd ≠ gb ∧ gr ≠ gb ∧ gd ≠ ga ∧ gr ≠ ga from ⟨n0_.out.neDR.1, n0_.out.neDR.2.1, n0_.out.neDR.2.2, NA.out.1, NA.out.2⟩); clear n0_ n1_ NA AT; obtain ⟨hca0, hca1, hca2⟩ := cells3 BA.out)
              | (go_at_call 20; (with_reducible refine (disk_Disk_Read.calls gd s n true left  ⟨#[]⟩ 12 s n true left w _ ?s1 ?s2 ED.out).mono ?_); (case s1 => exact HD.out); (case s2 => repeat (first | (with_reducible first | exact HB.out | apply below_alloc | apply pw_below_drewN | apply below_drew1) | exact HB.out)); rintro e w9 ⟨rfl, hi, hb, hk⟩; have n0_ := Aside0.mk hi; have n1_ := Aside0.mk (keepR HQ.out hk (Ne.symm NE.out.1)); have n2_ := Aside0.mk (keepB BK.out hk (Ne.symm NE.out.2.1)); have n3_ := Aside0.mk (keepB BA.out hk (Ne.symm NE.out.2.2.2.1)); clear HD HQ BK HB BA; have HB := Aside0.mk hb; have HD := n0_; have HQ := n1_; have BK := n2_; have BA := n3_; clear n0_ n1_ n2_ n3_ hi hb hk; (try clear hca0); (try clear hca1); (try clear hca2); obtain ⟨hca0, hca1, hca2⟩ := cells3 BA.out)
              | (go_at_call 21; (with_reducible refine (disk_Disk_Safe.calls gd s n true left  0 12 s n true left w _ ?s1 ?s2 ES.out).mono ?_); (case s1 => exact HD.out); (case s2 => repeat (first | (with_reducible first | exact HB.out | apply below_alloc | apply pw_below_drewN | apply below_drew1) | exact HB.out)); rintro e w9 ⟨rfl, hi, hb, hk⟩; have n0_ := Aside0.mk hi; have n1_ := Aside0.mk (keepR HQ.out hk (Ne.symm NE.out.1)); have n2_ := Aside0.mk (keepB BK.out hk (Ne.symm NE.out.2.1)); have n3_ := Aside0.mk (keepB BA.out hk (Ne.symm NE.out.2.2.2.1)); clear HD HQ BK HB BA; have HB := Aside0.mk hb; have HD := n0_; have HQ := n1_; have BK := n2_; have BA := n3_; clear n0_ n1_ n2_ n3_ hi hb hk; (try clear hca0); (try clear hca1); (try clear hca2); obtain ⟨hca0, hca1, hca2⟩ := cells3 BA.out))
            obtain ⟨hq0, hq1, hq2, hq3, hq4⟩ := cells5 HQ.out.1
            go_region
            have n0_ := Aside0.mk HD.out.drew
            have n1_ := Aside0.mk HQ.out.drew
            have n2_ := Aside0.mk (blk_drew BK.out)
            have n3_ := Aside0.mk (blk_drew BA.out)
            have n4_ := Aside0.mk (below_drew1 HB.out)
            clear HD HQ BK BA HB
            have HB := n4_
            have HD := n0_
            have HQ := n1_
            have BK := n2_
            have BA := n3_
            clear n0_ n1_ n2_ n3_ n4_
            have hss : (s.toList != s.toList) = false := bne_self_eq_false _
            have hnn : (n != n) = false := bne_self_eq_false _
            go_wp2_with (first
              | (go_at_call 10; (with_reducible refine (thresherlaw17_num.calls 12 12 _ rfl).mono ?_); rintro e w9 ⟨rfl, hd⟩; have hb := hd.below; clear hd; have n0_ := Aside0.mk (HD.out.below hb); have n1_ := Aside0.mk (HQ.out.below hb); have n2_ := Aside0.mk (blk_below BK.out hb); have n3_ := Aside0.mk (blk_below BA.out hb); have n4_ := Aside0.mk (below_step HB.out hb); clear HD HQ BK HB BA; have HB := n4_; have HD := n0_; have HQ := n1_; have BK := n2_; have BA := n3_; clear n0_ n1_ n2_ n4_ n3_ hb; (try clear hca0); (try clear hca1); (try clear hca2); obtain ⟨hca0, hca1, hca2⟩ := cells3 BA.out)
              | (go_at_call 10; (with_reducible refine (thresherlaw17_num.calls 0 0 _ rfl).mono ?_); rintro e w9 ⟨rfl, hd⟩; have hb := hd.below; clear hd; have n0_ := Aside0.mk (HD.out.below hb); have n1_ := Aside0.mk (HQ.out.below hb); have n2_ := Aside0.mk (blk_below BK.out hb); have n3_ := Aside0.mk (blk_below BA.out hb); have n4_ := Aside0.mk (below_step HB.out hb); clear HD HQ BK HB BA; have HB := n4_; have HD := n0_; have HQ := n1_; have BK := n2_; have BA := n3_; clear n0_ n1_ n2_ n4_ n3_ hb; (try clear hca0); (try clear hca1); (try clear hca2); obtain ⟨hca0, hca1, hca2⟩ := cells3 BA.out))
            go_roundg m
            case measure => omega
            case rel => exact ⟨i + 1, gd, gr, s, n, true, left, l2, armed, rfl, rfl, by first | rfl | go_num, ⟨by have := HI.out; omega⟩, ⟨⟨BK.out, HD.out, HQ.out, RL.out, HB.out⟩⟩⟩
          | false =>
            have ED := Aside0.mk (show disk_Disk_Read.f s n false left = some (s, 0, s, n, false, left) from read_eq s n false left)
            have ES := Aside0.mk (show disk_Disk_Safe.f s n false left = some (n, 0, s, n, false, left) from safe_eq s n false left)
            go_wp2_with (first
              | ((with_reducible refine gate_dst (N := 7) rfl ?_); refine box_event ?hg (N := 7) ?hd (cs := #[.int .i64 0, .int .i64 0, .string (⟨#[]⟩ : ByteArray)]) (t := 40) ?hr ?_; (case hd => rfl); (case hg => rfl); (case hr => first | (go_simp; done) | (go_simp; rfl)); intro ga hg w7 hbox hb; have HBA := Aside0.mk hb; have HGA : Aside0 (wr.heap.size ≤ ga) := ⟨Nat.le_of_eq hg.symm⟩; have BA := Aside0.mk hbox; have NA : Aside0 (gd ≠ ga ∧ gr ≠ ga) := ⟨by have h1_ := AT.out.d.lt; omega, by have h1_ := AT.out.r.lt; omega⟩; clear hb hbox hg; obtain ⟨hca0, hca1, hca2⟩ := cells3 BA.out; have hfa := fun i_ => blk_frozen BA.out i_)
              | (go_at_call 19; (with_reducible refine (thresherlaw0_Within.calls _ _ _ _ HV.out).mono ?_); rintro e w8 ⟨rfl, hd⟩; have hb := hd.below; have n0_ := Aside0.mk ((AT.out.step (below_set (below_set (below_set HBA.out HGA.out) HGA.out) HGA.out)).step hb); have n1_ := Aside0.mk (show w8.heap[ga]? = some (.cells #[.int .i64 (rd_T40 L i).f0, .int .i64 (rd_T40 L i).f1, .string (rd_T40 L i).f2] 40 (0, 0)) from blk_below (blk_put (blk_put (blk_put BA.out 0 _ rfl) 1 _ rfl) 2 _ rfl) hb); clear BA hca0 hca1 hca2 hfa hd hb hz0 hz1 HBA HGA; have BA := n1_; have BK := Aside0.mk n0_.out.box; have HD := Aside0.mk n0_.out.d; have HQ := Aside0.mk n0_.out.r; have HB := Aside0.mk n0_.out.below; have NE := Aside0.mk (show gd ≠ gr ∧ gd ≠ gb ∧ gr ≠ gb ∧ gd ≠ ga ∧ gr ≠ ga from ⟨n0_.out.neDR.1, n0_.out.neDR.2.1, n0_.out.neDR.2.2, NA.out.1, NA.out.2⟩); clear n0_ n1_ NA AT; obtain ⟨hca0, hca1, hca2⟩ := cells3 BA.out)
              | (go_at_call 20; (with_reducible refine (disk_Disk_Read.calls gd s n false left  s 0 s n false left w _ ?s1 ?s2 ED.out).mono ?_); (case s1 => exact HD.out); (case s2 => repeat (first | (with_reducible first | exact HB.out | apply below_alloc | apply pw_below_drewN | apply below_drew1) | exact HB.out)); rintro e w9 ⟨rfl, hi, hb, hk⟩; have n0_ := Aside0.mk hi; have n1_ := Aside0.mk (keepR HQ.out hk (Ne.symm NE.out.1)); have n2_ := Aside0.mk (keepB BK.out hk (Ne.symm NE.out.2.1)); have n3_ := Aside0.mk (keepB BA.out hk (Ne.symm NE.out.2.2.2.1)); clear HD HQ BK HB BA; have HB := Aside0.mk hb; have HD := n0_; have HQ := n1_; have BK := n2_; have BA := n3_; clear n0_ n1_ n2_ n3_ hi hb hk; (try clear hca0); (try clear hca1); (try clear hca2); obtain ⟨hca0, hca1, hca2⟩ := cells3 BA.out)
              | (go_at_call 21; (with_reducible refine (disk_Disk_Safe.calls gd s n false left  n 0 s n false left w _ ?s1 ?s2 ES.out).mono ?_); (case s1 => exact HD.out); (case s2 => repeat (first | (with_reducible first | exact HB.out | apply below_alloc | apply pw_below_drewN | apply below_drew1) | exact HB.out)); rintro e w9 ⟨rfl, hi, hb, hk⟩; have n0_ := Aside0.mk hi; have n1_ := Aside0.mk (keepR HQ.out hk (Ne.symm NE.out.1)); have n2_ := Aside0.mk (keepB BK.out hk (Ne.symm NE.out.2.1)); have n3_ := Aside0.mk (keepB BA.out hk (Ne.symm NE.out.2.2.2.1)); clear HD HQ BK HB BA; have HB := Aside0.mk hb; have HD := n0_; have HQ := n1_; have BK := n2_; have BA := n3_; clear n0_ n1_ n2_ n3_ hi hb hk; (try clear hca0); (try clear hca1); (try clear hca2); obtain ⟨hca0, hca1, hca2⟩ := cells3 BA.out))
            obtain ⟨hq0, hq1, hq2, hq3, hq4⟩ := cells5 HQ.out.1
            go_region
            have n0_ := Aside0.mk HD.out.drew
            have n1_ := Aside0.mk HQ.out.drew
            have n2_ := Aside0.mk (blk_drew BK.out)
            have n3_ := Aside0.mk (blk_drew BA.out)
            have n4_ := Aside0.mk (below_drew1 HB.out)
            clear HD HQ BK BA HB
            have HB := n4_
            have HD := n0_
            have HQ := n1_
            have BK := n2_
            have BA := n3_
            clear n0_ n1_ n2_ n3_ n4_
            have hss : (s.toList != s.toList) = false := bne_self_eq_false _
            have hnn : (n != n) = false := bne_self_eq_false _
            go_wp2_with (first
              | (go_at_call 10; (with_reducible refine (thresherlaw17_num.calls 0 0 _ rfl).mono ?_); rintro e w9 ⟨rfl, hd⟩; have hb := hd.below; clear hd; have n0_ := Aside0.mk (HD.out.below hb); have n1_ := Aside0.mk (HQ.out.below hb); have n2_ := Aside0.mk (blk_below BK.out hb); have n3_ := Aside0.mk (blk_below BA.out hb); have n4_ := Aside0.mk (below_step HB.out hb); clear HD HQ BK HB BA; have HB := n4_; have HD := n0_; have HQ := n1_; have BK := n2_; have BA := n3_; clear n0_ n1_ n2_ n4_ n3_ hb; (try clear hca0); (try clear hca1); (try clear hca2); obtain ⟨hca0, hca1, hca2⟩ := cells3 BA.out))
            go_roundg m
            case measure => omega
            case rel => exact ⟨i + 1, gd, gr, s, n, false, left, l2, armed, rfl, rfl, by first | rfl | go_num, ⟨by have := HI.out; omega⟩, ⟨⟨BK.out, HD.out, HQ.out, RL.out, HB.out⟩⟩⟩
        · -- 1
          have RL := Aside0.mk AT.out.rel
          cases off with
          | true =>
            have ED := Aside0.mk (show disk_Disk_Read.f s n true left = some (⟨#[]⟩, 12, s, n, true, left) from read_eq s n true left)
            have ES := Aside0.mk (show disk_Disk_Safe.f s n true left = some (0, 12, s, n, true, left) from safe_eq s n true left)
            go_wp2_with (first
              | ((with_reducible refine gate_dst (N := 7) rfl ?_); refine box_event ?hg (N := 7) ?hd (cs := #[.int .i64 0, .int .i64 0, .string (⟨#[]⟩ : ByteArray)]) (t := 40) ?hr ?_; (case hd => rfl); (case hg => rfl); (case hr => first | (go_simp; done) | (go_simp; rfl)); intro ga hg w7 hbox hb; have HBA := Aside0.mk hb; have HGA : Aside0 (wr.heap.size ≤ ga) := ⟨Nat.le_of_eq hg.symm⟩; have BA := Aside0.mk hbox; have NA : Aside0 (gd ≠ ga ∧ gr ≠ ga) := ⟨by have h1_ := AT.out.d.lt; omega, by have h1_ := AT.out.r.lt; omega⟩; clear hb hbox hg; obtain ⟨hca0, hca1, hca2⟩ := cells3 BA.out; have hfa := fun i_ => blk_frozen BA.out i_)
              | (go_at_call 19; (with_reducible refine (thresherlaw0_Within.calls _ _ _ _ HV.out).mono ?_); rintro e w8 ⟨rfl, hd⟩; have hb := hd.below; have n0_ := Aside0.mk ((AT.out.step (below_set (below_set (below_set HBA.out HGA.out) HGA.out) HGA.out)).step hb); have n1_ := Aside0.mk (show w8.heap[ga]? = some (.cells #[.int .i64 (rd_T40 L i).f0, .int .i64 (rd_T40 L i).f1, .string (rd_T40 L i).f2] 40 (0, 0)) from blk_below (blk_put (blk_put (blk_put BA.out 0 _ rfl) 1 _ rfl) 2 _ rfl) hb); clear BA hca0 hca1 hca2 hfa hd hb hz0 hz1 HBA HGA; have BA := n1_; have BK := Aside0.mk n0_.out.box; have HD := Aside0.mk n0_.out.d; have HQ := Aside0.mk n0_.out.r; have HB := Aside0.mk n0_.out.below; have NE := Aside0.mk (show gd ≠ gr ∧ gd ≠ gb ∧ gr ≠ gb ∧ gd ≠ ga ∧ gr ≠ ga from ⟨n0_.out.neDR.1, n0_.out.neDR.2.1, n0_.out.neDR.2.2, NA.out.1, NA.out.2⟩); clear n0_ n1_ NA AT; obtain ⟨hca0, hca1, hca2⟩ := cells3 BA.out)
              | (go_at_call 20; (with_reducible refine (disk_Disk_Read.calls gd s n true left  ⟨#[]⟩ 12 s n true left w _ ?s1 ?s2 ED.out).mono ?_); (case s1 => exact HD.out); (case s2 => repeat (first | (with_reducible first | exact HB.out | apply below_alloc | apply pw_below_drewN | apply below_drew1) | exact HB.out)); rintro e w9 ⟨rfl, hi, hb, hk⟩; have n0_ := Aside0.mk hi; have n1_ := Aside0.mk (keepR HQ.out hk (Ne.symm NE.out.1)); have n2_ := Aside0.mk (keepB BK.out hk (Ne.symm NE.out.2.1)); have n3_ := Aside0.mk (keepB BA.out hk (Ne.symm NE.out.2.2.2.1)); clear HD HQ BK HB BA; have HB := Aside0.mk hb; have HD := n0_; have HQ := n1_; have BK := n2_; have BA := n3_; clear n0_ n1_ n2_ n3_ hi hb hk; (try clear hca0); (try clear hca1); (try clear hca2); obtain ⟨hca0, hca1, hca2⟩ := cells3 BA.out)
              | (go_at_call 21; (with_reducible refine (disk_Disk_Safe.calls gd s n true left  0 12 s n true left w _ ?s1 ?s2 ES.out).mono ?_); (case s1 => exact HD.out); (case s2 => repeat (first | (with_reducible first | exact HB.out | apply below_alloc | apply pw_below_drewN | apply below_drew1) | exact HB.out)); rintro e w9 ⟨rfl, hi, hb, hk⟩; have n0_ := Aside0.mk hi; have n1_ := Aside0.mk (keepR HQ.out hk (Ne.symm NE.out.1)); have n2_ := Aside0.mk (keepB BK.out hk (Ne.symm NE.out.2.1)); have n3_ := Aside0.mk (keepB BA.out hk (Ne.symm NE.out.2.2.2.1)); clear HD HQ BK HB BA; have HB := Aside0.mk hb; have HD := n0_; have HQ := n1_; have BK := n2_; have BA := n3_; clear n0_ n1_ n2_ n3_ hi hb hk; (try clear hca0); (try clear hca1); (try clear hca2); obtain ⟨hca0, hca1, hca2⟩ := cells3 BA.out))
            obtain ⟨hq0, hq1, hq2, hq3, hq4⟩ := cells5 HQ.out.1
            go_region
            have n0_ := Aside0.mk HD.out.drew
            have n1_ := Aside0.mk HQ.out.drew
            have n2_ := Aside0.mk (blk_drew BK.out)
            have n3_ := Aside0.mk (blk_drew BA.out)
            have n4_ := Aside0.mk (below_drew1 HB.out)
            clear HD HQ BK BA HB
            have HB := n4_
            have HD := n0_
            have HQ := n1_
            have BK := n2_
            have BA := n3_
            clear n0_ n1_ n2_ n3_ n4_
            have hss : (s.toList != s.toList) = false := bne_self_eq_false _
            have hnn : (n != n) = false := bne_self_eq_false _
            go_wp2_with (first
              | (go_at_call 10; (with_reducible refine (thresherlaw17_num.calls 12 12 _ rfl).mono ?_); rintro e w9 ⟨rfl, hd⟩; have hb := hd.below; clear hd; have n0_ := Aside0.mk (HD.out.below hb); have n1_ := Aside0.mk (HQ.out.below hb); have n2_ := Aside0.mk (blk_below BK.out hb); have n3_ := Aside0.mk (blk_below BA.out hb); have n4_ := Aside0.mk (below_step HB.out hb); clear HD HQ BK HB BA; have HB := n4_; have HD := n0_; have HQ := n1_; have BK := n2_; have BA := n3_; clear n0_ n1_ n2_ n4_ n3_ hb; (try clear hca0); (try clear hca1); (try clear hca2); obtain ⟨hca0, hca1, hca2⟩ := cells3 BA.out)
              | (go_at_call 10; (with_reducible refine (thresherlaw17_num.calls 0 0 _ rfl).mono ?_); rintro e w9 ⟨rfl, hd⟩; have hb := hd.below; clear hd; have n0_ := Aside0.mk (HD.out.below hb); have n1_ := Aside0.mk (HQ.out.below hb); have n2_ := Aside0.mk (blk_below BK.out hb); have n3_ := Aside0.mk (blk_below BA.out hb); have n4_ := Aside0.mk (below_step HB.out hb); clear HD HQ BK HB BA; have HB := n4_; have HD := n0_; have HQ := n1_; have BK := n2_; have BA := n3_; clear n0_ n1_ n2_ n4_ n3_ hb; (try clear hca0); (try clear hca1); (try clear hca2); obtain ⟨hca0, hca1, hca2⟩ := cells3 BA.out))
            go_roundg m
            case measure => omega
            case rel => exact ⟨i + 1, gd, gr, s, n, true, left, l2, armed, rfl, rfl, by first | rfl | go_num, ⟨by have := HI.out; omega⟩, ⟨⟨BK.out, HD.out, HQ.out, RL.out, HB.out⟩⟩⟩
          | false =>
            have ED := Aside0.mk (show disk_Disk_Read.f s n false left = some (s, 0, s, n, false, left) from read_eq s n false left)
            have ES := Aside0.mk (show disk_Disk_Safe.f s n false left = some (n, 0, s, n, false, left) from safe_eq s n false left)
            go_wp2_with (first
              | ((with_reducible refine gate_dst (N := 7) rfl ?_); refine box_event ?hg (N := 7) ?hd (cs := #[.int .i64 0, .int .i64 0, .string (⟨#[]⟩ : ByteArray)]) (t := 40) ?hr ?_; (case hd => rfl); (case hg => rfl); (case hr => first | (go_simp; done) | (go_simp; rfl)); intro ga hg w7 hbox hb; have HBA := Aside0.mk hb; have HGA : Aside0 (wr.heap.size ≤ ga) := ⟨Nat.le_of_eq hg.symm⟩; have BA := Aside0.mk hbox; have NA : Aside0 (gd ≠ ga ∧ gr ≠ ga) := ⟨by have h1_ := AT.out.d.lt; omega, by have h1_ := AT.out.r.lt; omega⟩; clear hb hbox hg; obtain ⟨hca0, hca1, hca2⟩ := cells3 BA.out; have hfa := fun i_ => blk_frozen BA.out i_)
              | (go_at_call 19; (with_reducible refine (thresherlaw0_Within.calls _ _ _ _ HV.out).mono ?_); rintro e w8 ⟨rfl, hd⟩; have hb := hd.below; have n0_ := Aside0.mk ((AT.out.step (below_set (below_set (below_set HBA.out HGA.out) HGA.out) HGA.out)).step hb); have n1_ := Aside0.mk (show w8.heap[ga]? = some (.cells #[.int .i64 (rd_T40 L i).f0, .int .i64 (rd_T40 L i).f1, .string (rd_T40 L i).f2] 40 (0, 0)) from blk_below (blk_put (blk_put (blk_put BA.out 0 _ rfl) 1 _ rfl) 2 _ rfl) hb); clear BA hca0 hca1 hca2 hfa hd hb hz0 hz1 HBA HGA; have BA := n1_; have BK := Aside0.mk n0_.out.box; have HD := Aside0.mk n0_.out.d; have HQ := Aside0.mk n0_.out.r; have HB := Aside0.mk n0_.out.below; have NE := Aside0.mk (show gd ≠ gr ∧ gd ≠ gb ∧ gr ≠ gb ∧ gd ≠ ga ∧ gr ≠ ga from ⟨n0_.out.neDR.1, n0_.out.neDR.2.1, n0_.out.neDR.2.2, NA.out.1, NA.out.2⟩); clear n0_ n1_ NA AT; obtain ⟨hca0, hca1, hca2⟩ := cells3 BA.out)
              | (go_at_call 20; (with_reducible refine (disk_Disk_Read.calls gd s n false left  s 0 s n false left w _ ?s1 ?s2 ED.out).mono ?_); (case s1 => exact HD.out); (case s2 => repeat (first | (with_reducible first | exact HB.out | apply below_alloc | apply pw_below_drewN | apply below_drew1) | exact HB.out)); rintro e w9 ⟨rfl, hi, hb, hk⟩; have n0_ := Aside0.mk hi; have n1_ := Aside0.mk (keepR HQ.out hk (Ne.symm NE.out.1)); have n2_ := Aside0.mk (keepB BK.out hk (Ne.symm NE.out.2.1)); have n3_ := Aside0.mk (keepB BA.out hk (Ne.symm NE.out.2.2.2.1)); clear HD HQ BK HB BA; have HB := Aside0.mk hb; have HD := n0_; have HQ := n1_; have BK := n2_; have BA := n3_; clear n0_ n1_ n2_ n3_ hi hb hk; (try clear hca0); (try clear hca1); (try clear hca2); obtain ⟨hca0, hca1, hca2⟩ := cells3 BA.out)
              | (go_at_call 21; (with_reducible refine (disk_Disk_Safe.calls gd s n false left  n 0 s n false left w _ ?s1 ?s2 ES.out).mono ?_); (case s1 => exact HD.out); (case s2 => repeat (first | (with_reducible first | exact HB.out | apply below_alloc | apply pw_below_drewN | apply below_drew1) | exact HB.out)); rintro e w9 ⟨rfl, hi, hb, hk⟩; have n0_ := Aside0.mk hi; have n1_ := Aside0.mk (keepR HQ.out hk (Ne.symm NE.out.1)); have n2_ := Aside0.mk (keepB BK.out hk (Ne.symm NE.out.2.1)); have n3_ := Aside0.mk (keepB BA.out hk (Ne.symm NE.out.2.2.2.1)); clear HD HQ BK HB BA; have HB := Aside0.mk hb; have HD := n0_; have HQ := n1_; have BK := n2_; have BA := n3_; clear n0_ n1_ n2_ n3_ hi hb hk; (try clear hca0); (try clear hca1); (try clear hca2); obtain ⟨hca0, hca1, hca2⟩ := cells3 BA.out))
            obtain ⟨hq0, hq1, hq2, hq3, hq4⟩ := cells5 HQ.out.1
            go_region
            have n0_ := Aside0.mk HD.out.drew
            have n1_ := Aside0.mk HQ.out.drew
            have n2_ := Aside0.mk (blk_drew BK.out)
            have n3_ := Aside0.mk (blk_drew BA.out)
            have n4_ := Aside0.mk (below_drew1 HB.out)
            clear HD HQ BK BA HB
            have HB := n4_
            have HD := n0_
            have HQ := n1_
            have BK := n2_
            have BA := n3_
            clear n0_ n1_ n2_ n3_ n4_
            have hss : (s.toList != s.toList) = false := bne_self_eq_false _
            have hnn : (n != n) = false := bne_self_eq_false _
            go_wp2_with (first
              | (go_at_call 10; (with_reducible refine (thresherlaw17_num.calls 0 0 _ rfl).mono ?_); rintro e w9 ⟨rfl, hd⟩; have hb := hd.below; clear hd; have n0_ := Aside0.mk (HD.out.below hb); have n1_ := Aside0.mk (HQ.out.below hb); have n2_ := Aside0.mk (blk_below BK.out hb); have n3_ := Aside0.mk (blk_below BA.out hb); have n4_ := Aside0.mk (below_step HB.out hb); clear HD HQ BK HB BA; have HB := n4_; have HD := n0_; have HQ := n1_; have BK := n2_; have BA := n3_; clear n0_ n1_ n2_ n4_ n3_ hb; (try clear hca0); (try clear hca1); (try clear hca2); obtain ⟨hca0, hca1, hca2⟩ := cells3 BA.out))
            go_roundg m
            case measure => omega
            case rel => exact ⟨i + 1, gd, gr, s, n, false, left, l2, armed, rfl, rfl, by first | rfl | go_num, ⟨by have := HI.out; omega⟩, ⟨⟨BK.out, HD.out, HQ.out, RL.out, HB.out⟩⟩⟩
        · -- 2
          obtain ⟨r, s', n', off', left', l2', eD, eQ, hR⟩ := append_eq AT.out.rel (rd_T40 L i).f2
          have ED := Aside0.mk eD
          have EQ := Aside0.mk eQ
          have RL := Aside0.mk hR
          clear eD eQ hR
          have hrr : (r != r) = false := bne_self_eq_false r
          go_wp2_with (first
            | ((with_reducible refine gate_dst (N := 7) rfl ?_); refine box_event ?hg (N := 7) ?hd (cs := #[.int .i64 0, .int .i64 0, .string (⟨#[]⟩ : ByteArray)]) (t := 40) ?hr ?_; (case hd => rfl); (case hg => rfl); (case hr => first | (go_simp; done) | (go_simp; rfl)); intro ga hg w7 hbox hb; have HBA := Aside0.mk hb; have HGA : Aside0 (wr.heap.size ≤ ga) := ⟨Nat.le_of_eq hg.symm⟩; have BA := Aside0.mk hbox; have NA : Aside0 (gd ≠ ga ∧ gr ≠ ga) := ⟨by have h1_ := AT.out.d.lt; omega, by have h1_ := AT.out.r.lt; omega⟩; clear hb hbox hg; obtain ⟨hca0, hca1, hca2⟩ := cells3 BA.out; have hfa := fun i_ => blk_frozen BA.out i_)
            | (go_at_call 19; (with_reducible refine (thresherlaw0_Within.calls _ _ _ _ HV.out).mono ?_); rintro e w8 ⟨rfl, hd⟩; have hb := hd.below; have n0_ := Aside0.mk ((AT.out.step (below_set (below_set (below_set HBA.out HGA.out) HGA.out) HGA.out)).step hb); have n1_ := Aside0.mk (show w8.heap[ga]? = some (.cells #[.int .i64 (rd_T40 L i).f0, .int .i64 (rd_T40 L i).f1, .string (rd_T40 L i).f2] 40 (0, 0)) from blk_below (blk_put (blk_put (blk_put BA.out 0 _ rfl) 1 _ rfl) 2 _ rfl) hb); clear BA hca0 hca1 hca2 hfa hd hb hz0 hz1 HBA HGA; have BA := n1_; have BK := Aside0.mk n0_.out.box; have HD := Aside0.mk n0_.out.d; have HQ := Aside0.mk n0_.out.r; have HB := Aside0.mk n0_.out.below; have NE := Aside0.mk (show gd ≠ gr ∧ gd ≠ gb ∧ gr ≠ gb ∧ gd ≠ ga ∧ gr ≠ ga from ⟨n0_.out.neDR.1, n0_.out.neDR.2.1, n0_.out.neDR.2.2, NA.out.1, NA.out.2⟩); clear n0_ n1_ NA AT; obtain ⟨hca0, hca1, hca2⟩ := cells3 BA.out))
          go_region_held3 (fun w' => w'.cell? ⟨ga, 2, none⟩ = some (.string (rd_T40 L i).f2)) (first | assumption | go_keep)
            (first
              | (go_at_call 11; (with_reducible refine (disk_Disk_Append.calls gd s n off left (rd_T40 L i).f2 r s' n' off' left' w _ ?s1 ?s2 ED.out).mono ?_); (case s1 => exact HD.out); (case s2 => repeat (first | (with_reducible first | exact HB.out | apply below_alloc | apply pw_below_drewN | apply below_drew1) | exact HB.out)); rintro e w9 ⟨rfl, hi, hb, hk⟩; have n0_ := Aside0.mk hi; have n1_ := Aside0.mk (keepR HQ.out hk (Ne.symm NE.out.1)); have n2_ := Aside0.mk (keepB BK.out hk (Ne.symm NE.out.2.1)); have n3_ := Aside0.mk (keepB BA.out hk (Ne.symm NE.out.2.2.2.1)); clear HD HQ BK HB BA; have HB := Aside0.mk hb; have HD := n0_; have HQ := n1_; have BK := n2_; have BA := n3_; clear n0_ n1_ n2_ n3_ hi hb hk; (try clear hca0); (try clear hca1); (try clear hca2); obtain ⟨hca0, hca1, hca2⟩ := cells3 BA.out)
              | (go_at_call 28; (with_reducible refine (thresherref17_Disk_Append.calls gr s n l2 armed off (rd_T40 L i).f2 r s' n' l2' armed off' w _ ?s1 ?s2 EQ.out).mono ?_); (case s1 => exact HQ.out); (case s2 => repeat (first | (with_reducible first | exact HB.out | apply below_alloc | apply pw_below_drewN | apply below_drew1) | exact HB.out)); rintro e w9 ⟨rfl, hi, hb, hk⟩; have n0_ := Aside0.mk (keepD HD.out hk NE.out.1); have n1_ := Aside0.mk hi; have n2_ := Aside0.mk (keepB BK.out hk (Ne.symm NE.out.2.2.1)); have n3_ := Aside0.mk (keepB BA.out hk (Ne.symm NE.out.2.2.2.2)); clear HD HQ BK HB BA; have HB := Aside0.mk hb; have HD := n0_; have HQ := n1_; have BK := n2_; have BA := n3_; clear n0_ n1_ n2_ n3_ hi hb hk; (try clear hca0); (try clear hca1); (try clear hca2); obtain ⟨hca0, hca1, hca2⟩ := cells3 BA.out))
          all_goals
            go_wp2_with (first
              | (go_at_call 10; (with_reducible refine (thresherlaw17_num.calls r r _ rfl).mono ?_); rintro e w9 ⟨rfl, hd⟩; have hb := hd.below; clear hd; have n0_ := Aside0.mk (HD.out.below hb); have n1_ := Aside0.mk (HQ.out.below hb); have n2_ := Aside0.mk (blk_below BK.out hb); have n3_ := Aside0.mk (blk_below BA.out hb); have n4_ := Aside0.mk (below_step HB.out hb); clear HD HQ BK HB BA; have HB := n4_; have HD := n0_; have HQ := n1_; have BK := n2_; have BA := n3_; clear n0_ n1_ n2_ n4_ n3_ hb; (try clear hca0); (try clear hca1); (try clear hca2); obtain ⟨hca0, hca1, hca2⟩ := cells3 BA.out))
            go_roundg m
            case measure => omega
            case rel => exact ⟨i + 1, gd, gr, s', n', off', left', l2', armed, rfl, rfl, by first | rfl | go_num, ⟨by have := HI.out; omega⟩, ⟨⟨BK.out, HD.out, HQ.out, RL.out, HB.out⟩⟩⟩
        · -- 3
          obtain ⟨r, s', n', off', left', l2', eD, eQ, hR⟩ := append_eq AT.out.rel (rd_T40 L i).f2
          have ED := Aside0.mk eD
          have EQ := Aside0.mk eQ
          have RL := Aside0.mk hR
          clear eD eQ hR
          have hrr : (r != r) = false := bne_self_eq_false r
          go_wp2_with (first
            | ((with_reducible refine gate_dst (N := 7) rfl ?_); refine box_event ?hg (N := 7) ?hd (cs := #[.int .i64 0, .int .i64 0, .string (⟨#[]⟩ : ByteArray)]) (t := 40) ?hr ?_; (case hd => rfl); (case hg => rfl); (case hr => first | (go_simp; done) | (go_simp; rfl)); intro ga hg w7 hbox hb; have HBA := Aside0.mk hb; have HGA : Aside0 (wr.heap.size ≤ ga) := ⟨Nat.le_of_eq hg.symm⟩; have BA := Aside0.mk hbox; have NA : Aside0 (gd ≠ ga ∧ gr ≠ ga) := ⟨by have h1_ := AT.out.d.lt; omega, by have h1_ := AT.out.r.lt; omega⟩; clear hb hbox hg; obtain ⟨hca0, hca1, hca2⟩ := cells3 BA.out; have hfa := fun i_ => blk_frozen BA.out i_)
            | (go_at_call 19; (with_reducible refine (thresherlaw0_Within.calls _ _ _ _ HV.out).mono ?_); rintro e w8 ⟨rfl, hd⟩; have hb := hd.below; have n0_ := Aside0.mk ((AT.out.step (below_set (below_set (below_set HBA.out HGA.out) HGA.out) HGA.out)).step hb); have n1_ := Aside0.mk (show w8.heap[ga]? = some (.cells #[.int .i64 (rd_T40 L i).f0, .int .i64 (rd_T40 L i).f1, .string (rd_T40 L i).f2] 40 (0, 0)) from blk_below (blk_put (blk_put (blk_put BA.out 0 _ rfl) 1 _ rfl) 2 _ rfl) hb); clear BA hca0 hca1 hca2 hfa hd hb hz0 hz1 HBA HGA; have BA := n1_; have BK := Aside0.mk n0_.out.box; have HD := Aside0.mk n0_.out.d; have HQ := Aside0.mk n0_.out.r; have HB := Aside0.mk n0_.out.below; have NE := Aside0.mk (show gd ≠ gr ∧ gd ≠ gb ∧ gr ≠ gb ∧ gd ≠ ga ∧ gr ≠ ga from ⟨n0_.out.neDR.1, n0_.out.neDR.2.1, n0_.out.neDR.2.2, NA.out.1, NA.out.2⟩); clear n0_ n1_ NA AT; obtain ⟨hca0, hca1, hca2⟩ := cells3 BA.out))
          go_region_held3 (fun w' => w'.cell? ⟨ga, 2, none⟩ = some (.string (rd_T40 L i).f2)) (first | assumption | go_keep)
            (first
              | (go_at_call 11; (with_reducible refine (disk_Disk_Append.calls gd s n off left (rd_T40 L i).f2 r s' n' off' left' w _ ?s1 ?s2 ED.out).mono ?_); (case s1 => exact HD.out); (case s2 => repeat (first | (with_reducible first | exact HB.out | apply below_alloc | apply pw_below_drewN | apply below_drew1) | exact HB.out)); rintro e w9 ⟨rfl, hi, hb, hk⟩; have n0_ := Aside0.mk hi; have n1_ := Aside0.mk (keepR HQ.out hk (Ne.symm NE.out.1)); have n2_ := Aside0.mk (keepB BK.out hk (Ne.symm NE.out.2.1)); have n3_ := Aside0.mk (keepB BA.out hk (Ne.symm NE.out.2.2.2.1)); clear HD HQ BK HB BA; have HB := Aside0.mk hb; have HD := n0_; have HQ := n1_; have BK := n2_; have BA := n3_; clear n0_ n1_ n2_ n3_ hi hb hk; (try clear hca0); (try clear hca1); (try clear hca2); obtain ⟨hca0, hca1, hca2⟩ := cells3 BA.out)
              | (go_at_call 28; (with_reducible refine (thresherref17_Disk_Append.calls gr s n l2 armed off (rd_T40 L i).f2 r s' n' l2' armed off' w _ ?s1 ?s2 EQ.out).mono ?_); (case s1 => exact HQ.out); (case s2 => repeat (first | (with_reducible first | exact HB.out | apply below_alloc | apply pw_below_drewN | apply below_drew1) | exact HB.out)); rintro e w9 ⟨rfl, hi, hb, hk⟩; have n0_ := Aside0.mk (keepD HD.out hk NE.out.1); have n1_ := Aside0.mk hi; have n2_ := Aside0.mk (keepB BK.out hk (Ne.symm NE.out.2.2.1)); have n3_ := Aside0.mk (keepB BA.out hk (Ne.symm NE.out.2.2.2.2)); clear HD HQ BK HB BA; have HB := Aside0.mk hb; have HD := n0_; have HQ := n1_; have BK := n2_; have BA := n3_; clear n0_ n1_ n2_ n3_ hi hb hk; (try clear hca0); (try clear hca1); (try clear hca2); obtain ⟨hca0, hca1, hca2⟩ := cells3 BA.out))
          all_goals
            go_wp2_with (first
              | (go_at_call 10; (with_reducible refine (thresherlaw17_num.calls r r _ rfl).mono ?_); rintro e w9 ⟨rfl, hd⟩; have hb := hd.below; clear hd; have n0_ := Aside0.mk (HD.out.below hb); have n1_ := Aside0.mk (HQ.out.below hb); have n2_ := Aside0.mk (blk_below BK.out hb); have n3_ := Aside0.mk (blk_below BA.out hb); have n4_ := Aside0.mk (below_step HB.out hb); clear HD HQ BK HB BA; have HB := n4_; have HD := n0_; have HQ := n1_; have BK := n2_; have BA := n3_; clear n0_ n1_ n2_ n4_ n3_ hb; (try clear hca0); (try clear hca1); (try clear hca2); obtain ⟨hca0, hca1, hca2⟩ := cells3 BA.out))
            go_roundg m
            case measure => omega
            case rel => exact ⟨i + 1, gd, gr, s', n', off', left', l2', armed, rfl, rfl, by first | rfl | go_num, ⟨by have := HI.out; omega⟩, ⟨⟨BK.out, HD.out, HQ.out, RL.out, HB.out⟩⟩⟩
        · -- 4
          obtain ⟨r, s', n', off', left', l2', eD, eQ, hR⟩ := append_eq AT.out.rel (rd_T40 L i).f2
          have ED := Aside0.mk eD
          have EQ := Aside0.mk eQ
          have RL := Aside0.mk hR
          clear eD eQ hR
          have hrr : (r != r) = false := bne_self_eq_false r
          go_wp2_with (first
            | ((with_reducible refine gate_dst (N := 7) rfl ?_); refine box_event ?hg (N := 7) ?hd (cs := #[.int .i64 0, .int .i64 0, .string (⟨#[]⟩ : ByteArray)]) (t := 40) ?hr ?_; (case hd => rfl); (case hg => rfl); (case hr => first | (go_simp; done) | (go_simp; rfl)); intro ga hg w7 hbox hb; have HBA := Aside0.mk hb; have HGA : Aside0 (wr.heap.size ≤ ga) := ⟨Nat.le_of_eq hg.symm⟩; have BA := Aside0.mk hbox; have NA : Aside0 (gd ≠ ga ∧ gr ≠ ga) := ⟨by have h1_ := AT.out.d.lt; omega, by have h1_ := AT.out.r.lt; omega⟩; clear hb hbox hg; obtain ⟨hca0, hca1, hca2⟩ := cells3 BA.out; have hfa := fun i_ => blk_frozen BA.out i_)
            | (go_at_call 19; (with_reducible refine (thresherlaw0_Within.calls _ _ _ _ HV.out).mono ?_); rintro e w8 ⟨rfl, hd⟩; have hb := hd.below; have n0_ := Aside0.mk ((AT.out.step (below_set (below_set (below_set HBA.out HGA.out) HGA.out) HGA.out)).step hb); have n1_ := Aside0.mk (show w8.heap[ga]? = some (.cells #[.int .i64 (rd_T40 L i).f0, .int .i64 (rd_T40 L i).f1, .string (rd_T40 L i).f2] 40 (0, 0)) from blk_below (blk_put (blk_put (blk_put BA.out 0 _ rfl) 1 _ rfl) 2 _ rfl) hb); clear BA hca0 hca1 hca2 hfa hd hb hz0 hz1 HBA HGA; have BA := n1_; have BK := Aside0.mk n0_.out.box; have HD := Aside0.mk n0_.out.d; have HQ := Aside0.mk n0_.out.r; have HB := Aside0.mk n0_.out.below; have NE := Aside0.mk (show gd ≠ gr ∧ gd ≠ gb ∧ gr ≠ gb ∧ gd ≠ ga ∧ gr ≠ ga from ⟨n0_.out.neDR.1, n0_.out.neDR.2.1, n0_.out.neDR.2.2, NA.out.1, NA.out.2⟩); clear n0_ n1_ NA AT; obtain ⟨hca0, hca1, hca2⟩ := cells3 BA.out))
          go_region_held3 (fun w' => w'.cell? ⟨ga, 2, none⟩ = some (.string (rd_T40 L i).f2)) (first | assumption | go_keep)
            (first
              | (go_at_call 11; (with_reducible refine (disk_Disk_Append.calls gd s n off left (rd_T40 L i).f2 r s' n' off' left' w _ ?s1 ?s2 ED.out).mono ?_); (case s1 => exact HD.out); (case s2 => repeat (first | (with_reducible first | exact HB.out | apply below_alloc | apply pw_below_drewN | apply below_drew1) | exact HB.out)); rintro e w9 ⟨rfl, hi, hb, hk⟩; have n0_ := Aside0.mk hi; have n1_ := Aside0.mk (keepR HQ.out hk (Ne.symm NE.out.1)); have n2_ := Aside0.mk (keepB BK.out hk (Ne.symm NE.out.2.1)); have n3_ := Aside0.mk (keepB BA.out hk (Ne.symm NE.out.2.2.2.1)); clear HD HQ BK HB BA; have HB := Aside0.mk hb; have HD := n0_; have HQ := n1_; have BK := n2_; have BA := n3_; clear n0_ n1_ n2_ n3_ hi hb hk; (try clear hca0); (try clear hca1); (try clear hca2); obtain ⟨hca0, hca1, hca2⟩ := cells3 BA.out)
              | (go_at_call 28; (with_reducible refine (thresherref17_Disk_Append.calls gr s n l2 armed off (rd_T40 L i).f2 r s' n' l2' armed off' w _ ?s1 ?s2 EQ.out).mono ?_); (case s1 => exact HQ.out); (case s2 => repeat (first | (with_reducible first | exact HB.out | apply below_alloc | apply pw_below_drewN | apply below_drew1) | exact HB.out)); rintro e w9 ⟨rfl, hi, hb, hk⟩; have n0_ := Aside0.mk (keepD HD.out hk NE.out.1); have n1_ := Aside0.mk hi; have n2_ := Aside0.mk (keepB BK.out hk (Ne.symm NE.out.2.2.1)); have n3_ := Aside0.mk (keepB BA.out hk (Ne.symm NE.out.2.2.2.2)); clear HD HQ BK HB BA; have HB := Aside0.mk hb; have HD := n0_; have HQ := n1_; have BK := n2_; have BA := n3_; clear n0_ n1_ n2_ n3_ hi hb hk; (try clear hca0); (try clear hca1); (try clear hca2); obtain ⟨hca0, hca1, hca2⟩ := cells3 BA.out))
          all_goals
            go_wp2_with (first
              | (go_at_call 10; (with_reducible refine (thresherlaw17_num.calls r r _ rfl).mono ?_); rintro e w9 ⟨rfl, hd⟩; have hb := hd.below; clear hd; have n0_ := Aside0.mk (HD.out.below hb); have n1_ := Aside0.mk (HQ.out.below hb); have n2_ := Aside0.mk (blk_below BK.out hb); have n3_ := Aside0.mk (blk_below BA.out hb); have n4_ := Aside0.mk (below_step HB.out hb); clear HD HQ BK HB BA; have HB := n4_; have HD := n0_; have HQ := n1_; have BK := n2_; have BA := n3_; clear n0_ n1_ n2_ n4_ n3_ hb; (try clear hca0); (try clear hca1); (try clear hca2); obtain ⟨hca0, hca1, hca2⟩ := cells3 BA.out))
            go_roundg m
            case measure => omega
            case rel => exact ⟨i + 1, gd, gr, s', n', off', left', l2', armed, rfl, rfl, by first | rfl | go_num, ⟨by have := HI.out; omega⟩, ⟨⟨BK.out, HD.out, HQ.out, RL.out, HB.out⟩⟩⟩
        · -- 5
          obtain ⟨r, s', n', off', left', l2', eD, eQ, hR⟩ := sync_eq AT.out.rel
          have ED := Aside0.mk eD
          have EQ := Aside0.mk eQ
          have RL := Aside0.mk hR
          clear eD eQ hR
          have hrr : (r != r) = false := bne_self_eq_false r
          go_wp2_with (first
            | ((with_reducible refine gate_dst (N := 7) rfl ?_); refine box_event ?hg (N := 7) ?hd (cs := #[.int .i64 0, .int .i64 0, .string (⟨#[]⟩ : ByteArray)]) (t := 40) ?hr ?_; (case hd => rfl); (case hg => rfl); (case hr => first | (go_simp; done) | (go_simp; rfl)); intro ga hg w7 hbox hb; have HBA := Aside0.mk hb; have HGA : Aside0 (wr.heap.size ≤ ga) := ⟨Nat.le_of_eq hg.symm⟩; have BA := Aside0.mk hbox; have NA : Aside0 (gd ≠ ga ∧ gr ≠ ga) := ⟨by have h1_ := AT.out.d.lt; omega, by have h1_ := AT.out.r.lt; omega⟩; clear hb hbox hg; obtain ⟨hca0, hca1, hca2⟩ := cells3 BA.out; have hfa := fun i_ => blk_frozen BA.out i_)
            | (go_at_call 19; (with_reducible refine (thresherlaw0_Within.calls _ _ _ _ HV.out).mono ?_); rintro e w8 ⟨rfl, hd⟩; have hb := hd.below; have n0_ := Aside0.mk ((AT.out.step (below_set (below_set (below_set HBA.out HGA.out) HGA.out) HGA.out)).step hb); have n1_ := Aside0.mk (show w8.heap[ga]? = some (.cells #[.int .i64 (rd_T40 L i).f0, .int .i64 (rd_T40 L i).f1, .string (rd_T40 L i).f2] 40 (0, 0)) from blk_below (blk_put (blk_put (blk_put BA.out 0 _ rfl) 1 _ rfl) 2 _ rfl) hb); clear BA hca0 hca1 hca2 hfa hd hb hz0 hz1 HBA HGA; have BA := n1_; have BK := Aside0.mk n0_.out.box; have HD := Aside0.mk n0_.out.d; have HQ := Aside0.mk n0_.out.r; have HB := Aside0.mk n0_.out.below; have NE := Aside0.mk (show gd ≠ gr ∧ gd ≠ gb ∧ gr ≠ gb ∧ gd ≠ ga ∧ gr ≠ ga from ⟨n0_.out.neDR.1, n0_.out.neDR.2.1, n0_.out.neDR.2.2, NA.out.1, NA.out.2⟩); clear n0_ n1_ NA AT; obtain ⟨hca0, hca1, hca2⟩ := cells3 BA.out)
            | (go_at_call 12; (with_reducible refine (disk_Disk_Sync.calls gd s n off left  r s' n' off' left' w _ ?s1 ?s2 ED.out).mono ?_); (case s1 => exact HD.out); (case s2 => repeat (first | (with_reducible first | exact HB.out | apply below_alloc | apply pw_below_drewN | apply below_drew1) | exact HB.out)); rintro e w9 ⟨rfl, hi, hb, hk⟩; have n0_ := Aside0.mk hi; have n1_ := Aside0.mk (keepR HQ.out hk (Ne.symm NE.out.1)); have n2_ := Aside0.mk (keepB BK.out hk (Ne.symm NE.out.2.1)); have n3_ := Aside0.mk (keepB BA.out hk (Ne.symm NE.out.2.2.2.1)); clear HD HQ BK HB BA; have HB := Aside0.mk hb; have HD := n0_; have HQ := n1_; have BK := n2_; have BA := n3_; clear n0_ n1_ n2_ n3_ hi hb hk; (try clear hca0); (try clear hca1); (try clear hca2); obtain ⟨hca0, hca1, hca2⟩ := cells3 BA.out)
            | (go_at_call 22; (with_reducible refine (thresherref17_Disk_Sync.calls gr s n l2 armed off  r s' n' l2' armed off' w _ ?s1 ?s2 EQ.out).mono ?_); (case s1 => exact HQ.out); (case s2 => repeat (first | (with_reducible first | exact HB.out | apply below_alloc | apply pw_below_drewN | apply below_drew1) | exact HB.out)); rintro e w9 ⟨rfl, hi, hb, hk⟩; have n0_ := Aside0.mk (keepD HD.out hk NE.out.1); have n1_ := Aside0.mk hi; have n2_ := Aside0.mk (keepB BK.out hk (Ne.symm NE.out.2.2.1)); have n3_ := Aside0.mk (keepB BA.out hk (Ne.symm NE.out.2.2.2.2)); clear HD HQ BK HB BA; have HB := Aside0.mk hb; have HD := n0_; have HQ := n1_; have BK := n2_; have BA := n3_; clear n0_ n1_ n2_ n3_ hi hb hk; (try clear hca0); (try clear hca1); (try clear hca2); obtain ⟨hca0, hca1, hca2⟩ := cells3 BA.out)
            | (go_at_call 10; (with_reducible refine (thresherlaw17_num.calls r r _ rfl).mono ?_); rintro e w9 ⟨rfl, hd⟩; have hb := hd.below; clear hd; have n0_ := Aside0.mk (HD.out.below hb); have n1_ := Aside0.mk (HQ.out.below hb); have n2_ := Aside0.mk (blk_below BK.out hb); have n3_ := Aside0.mk (blk_below BA.out hb); have n4_ := Aside0.mk (below_step HB.out hb); clear HD HQ BK HB BA; have HB := n4_; have HD := n0_; have HQ := n1_; have BK := n2_; have BA := n3_; clear n0_ n1_ n2_ n4_ n3_ hb; (try clear hca0); (try clear hca1); (try clear hca2); obtain ⟨hca0, hca1, hca2⟩ := cells3 BA.out))
          go_roundg m
          case measure => omega
          case rel => exact ⟨i + 1, gd, gr, s', n', off', left', l2', armed, rfl, rfl, by first | rfl | go_num, ⟨by have := HI.out; omega⟩, ⟨⟨BK.out, HD.out, HQ.out, RL.out, HB.out⟩⟩⟩
        · -- 6
          obtain ⟨r, s', n', off', left', l2', eD, eQ, hR⟩ := sync_eq AT.out.rel
          have ED := Aside0.mk eD
          have EQ := Aside0.mk eQ
          have RL := Aside0.mk hR
          clear eD eQ hR
          have hrr : (r != r) = false := bne_self_eq_false r
          go_wp2_with (first
            | ((with_reducible refine gate_dst (N := 7) rfl ?_); refine box_event ?hg (N := 7) ?hd (cs := #[.int .i64 0, .int .i64 0, .string (⟨#[]⟩ : ByteArray)]) (t := 40) ?hr ?_; (case hd => rfl); (case hg => rfl); (case hr => first | (go_simp; done) | (go_simp; rfl)); intro ga hg w7 hbox hb; have HBA := Aside0.mk hb; have HGA : Aside0 (wr.heap.size ≤ ga) := ⟨Nat.le_of_eq hg.symm⟩; have BA := Aside0.mk hbox; have NA : Aside0 (gd ≠ ga ∧ gr ≠ ga) := ⟨by have h1_ := AT.out.d.lt; omega, by have h1_ := AT.out.r.lt; omega⟩; clear hb hbox hg; obtain ⟨hca0, hca1, hca2⟩ := cells3 BA.out; have hfa := fun i_ => blk_frozen BA.out i_)
            | (go_at_call 19; (with_reducible refine (thresherlaw0_Within.calls _ _ _ _ HV.out).mono ?_); rintro e w8 ⟨rfl, hd⟩; have hb := hd.below; have n0_ := Aside0.mk ((AT.out.step (below_set (below_set (below_set HBA.out HGA.out) HGA.out) HGA.out)).step hb); have n1_ := Aside0.mk (show w8.heap[ga]? = some (.cells #[.int .i64 (rd_T40 L i).f0, .int .i64 (rd_T40 L i).f1, .string (rd_T40 L i).f2] 40 (0, 0)) from blk_below (blk_put (blk_put (blk_put BA.out 0 _ rfl) 1 _ rfl) 2 _ rfl) hb); clear BA hca0 hca1 hca2 hfa hd hb hz0 hz1 HBA HGA; have BA := n1_; have BK := Aside0.mk n0_.out.box; have HD := Aside0.mk n0_.out.d; have HQ := Aside0.mk n0_.out.r; have HB := Aside0.mk n0_.out.below; have NE := Aside0.mk (show gd ≠ gr ∧ gd ≠ gb ∧ gr ≠ gb ∧ gd ≠ ga ∧ gr ≠ ga from ⟨n0_.out.neDR.1, n0_.out.neDR.2.1, n0_.out.neDR.2.2, NA.out.1, NA.out.2⟩); clear n0_ n1_ NA AT; obtain ⟨hca0, hca1, hca2⟩ := cells3 BA.out)
            | (go_at_call 12; (with_reducible refine (disk_Disk_Sync.calls gd s n off left  r s' n' off' left' w _ ?s1 ?s2 ED.out).mono ?_); (case s1 => exact HD.out); (case s2 => repeat (first | (with_reducible first | exact HB.out | apply below_alloc | apply pw_below_drewN | apply below_drew1) | exact HB.out)); rintro e w9 ⟨rfl, hi, hb, hk⟩; have n0_ := Aside0.mk hi; have n1_ := Aside0.mk (keepR HQ.out hk (Ne.symm NE.out.1)); have n2_ := Aside0.mk (keepB BK.out hk (Ne.symm NE.out.2.1)); have n3_ := Aside0.mk (keepB BA.out hk (Ne.symm NE.out.2.2.2.1)); clear HD HQ BK HB BA; have HB := Aside0.mk hb; have HD := n0_; have HQ := n1_; have BK := n2_; have BA := n3_; clear n0_ n1_ n2_ n3_ hi hb hk; (try clear hca0); (try clear hca1); (try clear hca2); obtain ⟨hca0, hca1, hca2⟩ := cells3 BA.out)
            | (go_at_call 22; (with_reducible refine (thresherref17_Disk_Sync.calls gr s n l2 armed off  r s' n' l2' armed off' w _ ?s1 ?s2 EQ.out).mono ?_); (case s1 => exact HQ.out); (case s2 => repeat (first | (with_reducible first | exact HB.out | apply below_alloc | apply pw_below_drewN | apply below_drew1) | exact HB.out)); rintro e w9 ⟨rfl, hi, hb, hk⟩; have n0_ := Aside0.mk (keepD HD.out hk NE.out.1); have n1_ := Aside0.mk hi; have n2_ := Aside0.mk (keepB BK.out hk (Ne.symm NE.out.2.2.1)); have n3_ := Aside0.mk (keepB BA.out hk (Ne.symm NE.out.2.2.2.2)); clear HD HQ BK HB BA; have HB := Aside0.mk hb; have HD := n0_; have HQ := n1_; have BK := n2_; have BA := n3_; clear n0_ n1_ n2_ n3_ hi hb hk; (try clear hca0); (try clear hca1); (try clear hca2); obtain ⟨hca0, hca1, hca2⟩ := cells3 BA.out)
            | (go_at_call 10; (with_reducible refine (thresherlaw17_num.calls r r _ rfl).mono ?_); rintro e w9 ⟨rfl, hd⟩; have hb := hd.below; clear hd; have n0_ := Aside0.mk (HD.out.below hb); have n1_ := Aside0.mk (HQ.out.below hb); have n2_ := Aside0.mk (blk_below BK.out hb); have n3_ := Aside0.mk (blk_below BA.out hb); have n4_ := Aside0.mk (below_step HB.out hb); clear HD HQ BK HB BA; have HB := n4_; have HD := n0_; have HQ := n1_; have BK := n2_; have BA := n3_; clear n0_ n1_ n2_ n4_ n3_ hb; (try clear hca0); (try clear hca1); (try clear hca2); obtain ⟨hca0, hca1, hca2⟩ := cells3 BA.out))
          go_roundg m
          case measure => omega
          case rel => exact ⟨i + 1, gd, gr, s', n', off', left', l2', armed, rfl, rfl, by first | rfl | go_num, ⟨by have := HI.out; omega⟩, ⟨⟨BK.out, HD.out, HQ.out, RL.out, HB.out⟩⟩⟩
        · -- 7
          obtain ⟨r, s', n', off', left', l2', eD, eQ, hR⟩ := cut_eq AT.out.rel (rd_T40 L i).f1
          have ED := Aside0.mk eD
          have EQ := Aside0.mk eQ
          have RL := Aside0.mk hR
          clear eD eQ hR
          have hrr : (r != r) = false := bne_self_eq_false r
          go_wp2_with (first
            | ((with_reducible refine gate_dst (N := 7) rfl ?_); refine box_event ?hg (N := 7) ?hd (cs := #[.int .i64 0, .int .i64 0, .string (⟨#[]⟩ : ByteArray)]) (t := 40) ?hr ?_; (case hd => rfl); (case hg => rfl); (case hr => first | (go_simp; done) | (go_simp; rfl)); intro ga hg w7 hbox hb; have HBA := Aside0.mk hb; have HGA : Aside0 (wr.heap.size ≤ ga) := ⟨Nat.le_of_eq hg.symm⟩; have BA := Aside0.mk hbox; have NA : Aside0 (gd ≠ ga ∧ gr ≠ ga) := ⟨by have h1_ := AT.out.d.lt; omega, by have h1_ := AT.out.r.lt; omega⟩; clear hb hbox hg; obtain ⟨hca0, hca1, hca2⟩ := cells3 BA.out; have hfa := fun i_ => blk_frozen BA.out i_)
            | (go_at_call 19; (with_reducible refine (thresherlaw0_Within.calls _ _ _ _ HV.out).mono ?_); rintro e w8 ⟨rfl, hd⟩; have hb := hd.below; have n0_ := Aside0.mk ((AT.out.step (below_set (below_set (below_set HBA.out HGA.out) HGA.out) HGA.out)).step hb); have n1_ := Aside0.mk (show w8.heap[ga]? = some (.cells #[.int .i64 (rd_T40 L i).f0, .int .i64 (rd_T40 L i).f1, .string (rd_T40 L i).f2] 40 (0, 0)) from blk_below (blk_put (blk_put (blk_put BA.out 0 _ rfl) 1 _ rfl) 2 _ rfl) hb); clear BA hca0 hca1 hca2 hfa hd hb hz0 hz1 HBA HGA; have BA := n1_; have BK := Aside0.mk n0_.out.box; have HD := Aside0.mk n0_.out.d; have HQ := Aside0.mk n0_.out.r; have HB := Aside0.mk n0_.out.below; have NE := Aside0.mk (show gd ≠ gr ∧ gd ≠ gb ∧ gr ≠ gb ∧ gd ≠ ga ∧ gr ≠ ga from ⟨n0_.out.neDR.1, n0_.out.neDR.2.1, n0_.out.neDR.2.2, NA.out.1, NA.out.2⟩); clear n0_ n1_ NA AT; obtain ⟨hca0, hca1, hca2⟩ := cells3 BA.out))
          go_region_held3 (fun w' => w'.cell? ⟨ga, 1, none⟩ = some (.int .i64 (rd_T40 L i).f1)) (first | assumption | go_keep)
            (first
              | (go_at_call 23; (with_reducible refine (cut_calls gd s n off left (rd_T40 L i).f1 r s' n' off' left' w _ ?s1 ?s2 ED.out).mono ?_); (case s1 => exact HD.out); (case s2 => repeat (first | (with_reducible first | exact HB.out | apply below_alloc | apply pw_below_drewN | apply below_drew1) | exact HB.out)); rintro e w9 ⟨rfl, hi, hb, hk⟩; have n0_ := Aside0.mk hi; have n1_ := Aside0.mk (keepR HQ.out hk (Ne.symm NE.out.1)); have n2_ := Aside0.mk (keepB BK.out hk (Ne.symm NE.out.2.1)); have n3_ := Aside0.mk (keepB BA.out hk (Ne.symm NE.out.2.2.2.1)); clear HD HQ BK HB BA; have HB := Aside0.mk hb; have HD := n0_; have HQ := n1_; have BK := n2_; have BA := n3_; clear n0_ n1_ n2_ n3_ hi hb hk; (try clear hca0); (try clear hca1); (try clear hca2); obtain ⟨hca0, hca1, hca2⟩ := cells3 BA.out)
              | (go_at_call 24; (with_reducible refine (thresherref17_Disk_Cut.calls gr s n l2 armed off (rd_T40 L i).f1 r s' n' l2' armed off' w _ ?s1 ?s2 EQ.out).mono ?_); (case s1 => exact HQ.out); (case s2 => repeat (first | (with_reducible first | exact HB.out | apply below_alloc | apply pw_below_drewN | apply below_drew1) | exact HB.out)); rintro e w9 ⟨rfl, hi, hb, hk⟩; have n0_ := Aside0.mk (keepD HD.out hk NE.out.1); have n1_ := Aside0.mk hi; have n2_ := Aside0.mk (keepB BK.out hk (Ne.symm NE.out.2.2.1)); have n3_ := Aside0.mk (keepB BA.out hk (Ne.symm NE.out.2.2.2.2)); clear HD HQ BK HB BA; have HB := Aside0.mk hb; have HD := n0_; have HQ := n1_; have BK := n2_; have BA := n3_; clear n0_ n1_ n2_ n3_ hi hb hk; (try clear hca0); (try clear hca1); (try clear hca2); obtain ⟨hca0, hca1, hca2⟩ := cells3 BA.out))
          all_goals
            go_wp2_with (first
              | (go_at_call 10; (with_reducible refine (thresherlaw17_num.calls r r _ rfl).mono ?_); rintro e w9 ⟨rfl, hd⟩; have hb := hd.below; clear hd; have n0_ := Aside0.mk (HD.out.below hb); have n1_ := Aside0.mk (HQ.out.below hb); have n2_ := Aside0.mk (blk_below BK.out hb); have n3_ := Aside0.mk (blk_below BA.out hb); have n4_ := Aside0.mk (below_step HB.out hb); clear HD HQ BK HB BA; have HB := n4_; have HD := n0_; have HQ := n1_; have BK := n2_; have BA := n3_; clear n0_ n1_ n2_ n4_ n3_ hb; (try clear hca0); (try clear hca1); (try clear hca2); obtain ⟨hca0, hca1, hca2⟩ := cells3 BA.out))
            go_roundg m
            case measure => omega
            case rel => exact ⟨i + 1, gd, gr, s', n', off', left', l2', armed, rfl, rfl, by first | rfl | go_num, ⟨by have := HI.out; omega⟩, ⟨⟨BK.out, HD.out, HQ.out, RL.out, HB.out⟩⟩⟩
        · -- 8
          obtain ⟨r, s', n', off', left', l2', eD, eQ, hR⟩ := swap_eq AT.out.rel (rd_T40 L i).f2
          have ED := Aside0.mk eD
          have EQ := Aside0.mk eQ
          have RL := Aside0.mk hR
          clear eD eQ hR
          have hrr : (r != r) = false := bne_self_eq_false r
          go_wp2_with (first
            | ((with_reducible refine gate_dst (N := 7) rfl ?_); refine box_event ?hg (N := 7) ?hd (cs := #[.int .i64 0, .int .i64 0, .string (⟨#[]⟩ : ByteArray)]) (t := 40) ?hr ?_; (case hd => rfl); (case hg => rfl); (case hr => first | (go_simp; done) | (go_simp; rfl)); intro ga hg w7 hbox hb; have HBA := Aside0.mk hb; have HGA : Aside0 (wr.heap.size ≤ ga) := ⟨Nat.le_of_eq hg.symm⟩; have BA := Aside0.mk hbox; have NA : Aside0 (gd ≠ ga ∧ gr ≠ ga) := ⟨by have h1_ := AT.out.d.lt; omega, by have h1_ := AT.out.r.lt; omega⟩; clear hb hbox hg; obtain ⟨hca0, hca1, hca2⟩ := cells3 BA.out; have hfa := fun i_ => blk_frozen BA.out i_)
            | (go_at_call 19; (with_reducible refine (thresherlaw0_Within.calls _ _ _ _ HV.out).mono ?_); rintro e w8 ⟨rfl, hd⟩; have hb := hd.below; have n0_ := Aside0.mk ((AT.out.step (below_set (below_set (below_set HBA.out HGA.out) HGA.out) HGA.out)).step hb); have n1_ := Aside0.mk (show w8.heap[ga]? = some (.cells #[.int .i64 (rd_T40 L i).f0, .int .i64 (rd_T40 L i).f1, .string (rd_T40 L i).f2] 40 (0, 0)) from blk_below (blk_put (blk_put (blk_put BA.out 0 _ rfl) 1 _ rfl) 2 _ rfl) hb); clear BA hca0 hca1 hca2 hfa hd hb hz0 hz1 HBA HGA; have BA := n1_; have BK := Aside0.mk n0_.out.box; have HD := Aside0.mk n0_.out.d; have HQ := Aside0.mk n0_.out.r; have HB := Aside0.mk n0_.out.below; have NE := Aside0.mk (show gd ≠ gr ∧ gd ≠ gb ∧ gr ≠ gb ∧ gd ≠ ga ∧ gr ≠ ga from ⟨n0_.out.neDR.1, n0_.out.neDR.2.1, n0_.out.neDR.2.2, NA.out.1, NA.out.2⟩); clear n0_ n1_ NA AT; obtain ⟨hca0, hca1, hca2⟩ := cells3 BA.out))
          go_region_held3 (fun w' => w'.cell? ⟨ga, 2, none⟩ = some (.string (rd_T40 L i).f2)) (first | assumption | go_keep)
            (first
              | (go_at_call 15; (with_reducible refine (disk_Disk_Swap.calls gd s n off left (rd_T40 L i).f2 r s' n' off' left' w _ ?s1 ?s2 ED.out).mono ?_); (case s1 => exact HD.out); (case s2 => repeat (first | (with_reducible first | exact HB.out | apply below_alloc | apply pw_below_drewN | apply below_drew1) | exact HB.out)); rintro e w9 ⟨rfl, hi, hb, hk⟩; have n0_ := Aside0.mk hi; have n1_ := Aside0.mk (keepR HQ.out hk (Ne.symm NE.out.1)); have n2_ := Aside0.mk (keepB BK.out hk (Ne.symm NE.out.2.1)); have n3_ := Aside0.mk (keepB BA.out hk (Ne.symm NE.out.2.2.2.1)); clear HD HQ BK HB BA; have HB := Aside0.mk hb; have HD := n0_; have HQ := n1_; have BK := n2_; have BA := n3_; clear n0_ n1_ n2_ n3_ hi hb hk; (try clear hca0); (try clear hca1); (try clear hca2); obtain ⟨hca0, hca1, hca2⟩ := cells3 BA.out)
              | (go_at_call 25; (with_reducible refine (thresherref17_Disk_Swap.calls gr s n l2 armed off (rd_T40 L i).f2 r s' n' l2' armed off' w _ ?s1 ?s2 EQ.out).mono ?_); (case s1 => exact HQ.out); (case s2 => repeat (first | (with_reducible first | exact HB.out | apply below_alloc | apply pw_below_drewN | apply below_drew1) | exact HB.out)); rintro e w9 ⟨rfl, hi, hb, hk⟩; have n0_ := Aside0.mk (keepD HD.out hk NE.out.1); have n1_ := Aside0.mk hi; have n2_ := Aside0.mk (keepB BK.out hk (Ne.symm NE.out.2.2.1)); have n3_ := Aside0.mk (keepB BA.out hk (Ne.symm NE.out.2.2.2.2)); clear HD HQ BK HB BA; have HB := Aside0.mk hb; have HD := n0_; have HQ := n1_; have BK := n2_; have BA := n3_; clear n0_ n1_ n2_ n3_ hi hb hk; (try clear hca0); (try clear hca1); (try clear hca2); obtain ⟨hca0, hca1, hca2⟩ := cells3 BA.out))
          all_goals
            go_wp2_with (first
              | (go_at_call 10; (with_reducible refine (thresherlaw17_num.calls r r _ rfl).mono ?_); rintro e w9 ⟨rfl, hd⟩; have hb := hd.below; clear hd; have n0_ := Aside0.mk (HD.out.below hb); have n1_ := Aside0.mk (HQ.out.below hb); have n2_ := Aside0.mk (blk_below BK.out hb); have n3_ := Aside0.mk (blk_below BA.out hb); have n4_ := Aside0.mk (below_step HB.out hb); clear HD HQ BK HB BA; have HB := n4_; have HD := n0_; have HQ := n1_; have BK := n2_; have BA := n3_; clear n0_ n1_ n2_ n4_ n3_ hb; (try clear hca0); (try clear hca1); (try clear hca2); obtain ⟨hca0, hca1, hca2⟩ := cells3 BA.out))
            go_roundg m
            case measure => omega
            case rel => exact ⟨i + 1, gd, gr, s', n', off', left', l2', armed, rfl, rfl, by first | rfl | go_num, ⟨by have := HI.out; omega⟩, ⟨⟨BK.out, HD.out, HQ.out, RL.out, HB.out⟩⟩⟩
        · -- 9
          obtain ⟨off', left', l2', armed', eD, eQ, hR⟩ := off_eq AT.out.rel (rd_T40 L i).f1 (HL.out _ (rd_mem h0 hlt))
          have ED := Aside0.mk eD
          have EQ := Aside0.mk eQ
          have RL := Aside0.mk hR
          clear eD eQ hR
          go_wp2_with (first
            | ((with_reducible refine gate_dst (N := 7) rfl ?_); refine box_event ?hg (N := 7) ?hd (cs := #[.int .i64 0, .int .i64 0, .string (⟨#[]⟩ : ByteArray)]) (t := 40) ?hr ?_; (case hd => rfl); (case hg => rfl); (case hr => first | (go_simp; done) | (go_simp; rfl)); intro ga hg w7 hbox hb; have HBA := Aside0.mk hb; have HGA : Aside0 (wr.heap.size ≤ ga) := ⟨Nat.le_of_eq hg.symm⟩; have BA := Aside0.mk hbox; have NA : Aside0 (gd ≠ ga ∧ gr ≠ ga) := ⟨by have h1_ := AT.out.d.lt; omega, by have h1_ := AT.out.r.lt; omega⟩; clear hb hbox hg; obtain ⟨hca0, hca1, hca2⟩ := cells3 BA.out; have hfa := fun i_ => blk_frozen BA.out i_)
            | (go_at_call 19; (with_reducible refine (thresherlaw0_Within.calls _ _ _ _ HV.out).mono ?_); rintro e w8 ⟨rfl, hd⟩; have hb := hd.below; have n0_ := Aside0.mk ((AT.out.step (below_set (below_set (below_set HBA.out HGA.out) HGA.out) HGA.out)).step hb); have n1_ := Aside0.mk (show w8.heap[ga]? = some (.cells #[.int .i64 (rd_T40 L i).f0, .int .i64 (rd_T40 L i).f1, .string (rd_T40 L i).f2] 40 (0, 0)) from blk_below (blk_put (blk_put (blk_put BA.out 0 _ rfl) 1 _ rfl) 2 _ rfl) hb); clear BA hca0 hca1 hca2 hfa hd hb hz0 hz1 HBA HGA; have BA := n1_; have BK := Aside0.mk n0_.out.box; have HD := Aside0.mk n0_.out.d; have HQ := Aside0.mk n0_.out.r; have HB := Aside0.mk n0_.out.below; have NE := Aside0.mk (show gd ≠ gr ∧ gd ≠ gb ∧ gr ≠ gb ∧ gd ≠ ga ∧ gr ≠ ga from ⟨n0_.out.neDR.1, n0_.out.neDR.2.1, n0_.out.neDR.2.2, NA.out.1, NA.out.2⟩); clear n0_ n1_ NA AT; obtain ⟨hca0, hca1, hca2⟩ := cells3 BA.out)
            | (go_at_call 14; (with_reducible refine (disk_Disk_Off.calls gd s n off left (rd_T40 L i).f1 s n off' left' w _ ?s1 ?s2 ED.out).mono ?_); (case s1 => exact HD.out); (case s2 => repeat (first | (with_reducible first | exact HB.out | apply below_alloc | apply pw_below_drewN | apply below_drew1) | exact HB.out)); rintro e w9 ⟨rfl, hi, hb, hk⟩; have n0_ := Aside0.mk hi; have n1_ := Aside0.mk (keepR HQ.out hk (Ne.symm NE.out.1)); have n2_ := Aside0.mk (keepB BK.out hk (Ne.symm NE.out.2.1)); have n3_ := Aside0.mk (keepB BA.out hk (Ne.symm NE.out.2.2.2.1)); clear HD HQ BK HB BA; have HB := Aside0.mk hb; have HD := n0_; have HQ := n1_; have BK := n2_; have BA := n3_; clear n0_ n1_ n2_ n3_ hi hb hk; (try clear hca0); (try clear hca1); (try clear hca2); obtain ⟨hca0, hca1, hca2⟩ := cells3 BA.out)
            | (go_at_call 26; (with_reducible refine (thresherref17_Disk_Arm.calls gr s n l2 armed off (rd_T40 L i).f1 s n l2' armed' off' w _ ?s1 ?s2 EQ.out).mono ?_); (case s1 => exact HQ.out); (case s2 => repeat (first | (with_reducible first | exact HB.out | apply below_alloc | apply pw_below_drewN | apply below_drew1) | exact HB.out)); rintro e w9 ⟨rfl, hi, hb, hk⟩; have n0_ := Aside0.mk (keepD HD.out hk NE.out.1); have n1_ := Aside0.mk hi; have n2_ := Aside0.mk (keepB BK.out hk (Ne.symm NE.out.2.2.1)); have n3_ := Aside0.mk (keepB BA.out hk (Ne.symm NE.out.2.2.2.2)); clear HD HQ BK HB BA; have HB := Aside0.mk hb; have HD := n0_; have HQ := n1_; have BK := n2_; have BA := n3_; clear n0_ n1_ n2_ n3_ hi hb hk; (try clear hca0); (try clear hca1); (try clear hca2); obtain ⟨hca0, hca1, hca2⟩ := cells3 BA.out)
            | (go_at_call 10; (with_reducible refine (thresherlaw17_num.calls 0 0 _ rfl).mono ?_); rintro e w9 ⟨rfl, hd⟩; have hb := hd.below; clear hd; have n0_ := Aside0.mk (HD.out.below hb); have n1_ := Aside0.mk (HQ.out.below hb); have n2_ := Aside0.mk (blk_below BK.out hb); have n3_ := Aside0.mk (blk_below BA.out hb); have n4_ := Aside0.mk (below_step HB.out hb); clear HD HQ BK HB BA; have HB := n4_; have HD := n0_; have HQ := n1_; have BK := n2_; have BA := n3_; clear n0_ n1_ n2_ n4_ n3_ hb; (try clear hca0); (try clear hca1); (try clear hca2); obtain ⟨hca0, hca1, hca2⟩ := cells3 BA.out))
          go_roundg m
          case measure => omega
          case rel => exact ⟨i + 1, gd, gr, s, n, off', left', l2', armed', rfl, rfl, by first | rfl | go_num, ⟨by have := HI.out; omega⟩, ⟨⟨BK.out, HD.out, HQ.out, RL.out, HB.out⟩⟩⟩
        · -- 10
          obtain ⟨t, eD, eQ, ht⟩ := crash_eq AT.out.rel (rd_T40 L i).f1
          have ED := Aside0.mk eD
          have EQ := Aside0.mk eQ
          have HT := Aside0.mk ht
          clear eD eQ ht
          have htt : (t.toList != t.toList) = false := bne_self_eq_false _
          go_wp2_with (first
            | ((with_reducible refine gate_dst (N := 7) rfl ?_); refine box_event ?hg (N := 7) ?hd (cs := #[.int .i64 0, .int .i64 0, .string (⟨#[]⟩ : ByteArray)]) (t := 40) ?hr ?_; (case hd => rfl); (case hg => rfl); (case hr => first | (go_simp; done) | (go_simp; rfl)); intro ga hg w7 hbox hb; have HBA := Aside0.mk hb; have HGA : Aside0 (wr.heap.size ≤ ga) := ⟨Nat.le_of_eq hg.symm⟩; have BA := Aside0.mk hbox; have NA : Aside0 (gd ≠ ga ∧ gr ≠ ga) := ⟨by have h1_ := AT.out.d.lt; omega, by have h1_ := AT.out.r.lt; omega⟩; clear hb hbox hg; obtain ⟨hca0, hca1, hca2⟩ := cells3 BA.out; have hfa := fun i_ => blk_frozen BA.out i_)
            | (go_at_call 19; (with_reducible refine (thresherlaw0_Within.calls _ _ _ _ HV.out).mono ?_); rintro e w8 ⟨rfl, hd⟩; have hb := hd.below; have n0_ := Aside0.mk ((AT.out.step (below_set (below_set (below_set HBA.out HGA.out) HGA.out) HGA.out)).step hb); have n1_ := Aside0.mk (show w8.heap[ga]? = some (.cells #[.int .i64 (rd_T40 L i).f0, .int .i64 (rd_T40 L i).f1, .string (rd_T40 L i).f2] 40 (0, 0)) from blk_below (blk_put (blk_put (blk_put BA.out 0 _ rfl) 1 _ rfl) 2 _ rfl) hb); clear BA hca0 hca1 hca2 hfa hd hb hz0 hz1 HBA HGA; have BA := n1_; have BK := Aside0.mk n0_.out.box; have HD := Aside0.mk n0_.out.d; have HQ := Aside0.mk n0_.out.r; have HB := Aside0.mk n0_.out.below; have NE := Aside0.mk (show gd ≠ gr ∧ gd ≠ gb ∧ gr ≠ gb ∧ gd ≠ ga ∧ gr ≠ ga from ⟨n0_.out.neDR.1, n0_.out.neDR.2.1, n0_.out.neDR.2.2, NA.out.1, NA.out.2⟩); clear n0_ n1_ NA AT; obtain ⟨hca0, hca1, hca2⟩ := cells3 BA.out))
          go_region_held3 (fun w' => w'.cell? ⟨ga, 1, none⟩ = some (.int .i64 (rd_T40 L i).f1)) (first | assumption | go_keep)
            (first
              | (go_at_call 13; (with_reducible refine (disk_Disk_Crash.calls gd s n off left (rd_T40 L i).f1 t s n true left w _ ?s1 ?s2 ED.out).mono ?_); (case s1 => exact HD.out); (case s2 => repeat (first | (with_reducible first | exact HB.out | apply below_alloc | apply pw_below_drewN | apply below_drew1) | exact HB.out)); rintro e w9 ⟨rfl, hi, hb, hk⟩; have n0_ := Aside0.mk hi; have n1_ := Aside0.mk (keepR HQ.out hk (Ne.symm NE.out.1)); have n2_ := Aside0.mk (keepB BK.out hk (Ne.symm NE.out.2.1)); have n3_ := Aside0.mk (keepB BA.out hk (Ne.symm NE.out.2.2.2.1)); clear HD HQ BK HB BA; have HB := Aside0.mk hb; have HD := n0_; have HQ := n1_; have BK := n2_; have BA := n3_; clear n0_ n1_ n2_ n3_ hi hb hk; (try clear hca0); (try clear hca1); (try clear hca2); obtain ⟨hca0, hca1, hca2⟩ := cells3 BA.out)
              | (go_at_call 27; (with_reducible refine (thresherref17_Disk_Crash.calls gr s n l2 armed off (rd_T40 L i).f1 t s n l2 armed true w _ ?s1 ?s2 EQ.out).mono ?_); (case s1 => exact HQ.out); (case s2 => repeat (first | (with_reducible first | exact HB.out | apply below_alloc | apply pw_below_drewN | apply below_drew1) | exact HB.out)); rintro e w9 ⟨rfl, hi, hb, hk⟩; have n0_ := Aside0.mk (keepD HD.out hk NE.out.1); have n1_ := Aside0.mk hi; have n2_ := Aside0.mk (keepB BK.out hk (Ne.symm NE.out.2.2.1)); have n3_ := Aside0.mk (keepB BA.out hk (Ne.symm NE.out.2.2.2.2)); clear HD HQ BK HB BA; have HB := Aside0.mk hb; have HD := n0_; have HQ := n1_; have BK := n2_; have BA := n3_; clear n0_ n1_ n2_ n3_ hi hb hk; (try clear hca0); (try clear hca1); (try clear hca2); obtain ⟨hca0, hca1, hca2⟩ := cells3 BA.out))
          all_goals
            go_wp2_with (first
              | (go_at_call 9; (with_reducible refine (new_ok t HT.out w _ HB.out).mono ?_); rintro e w10 ⟨gd2, rfl, hi, hb, hb2, hgd⟩; have n0_ := Aside0.mk hi; have n1_ := Aside0.mk (HQ.out.below hb2); have n2_ := Aside0.mk (blk_below BK.out hb2); have n3_ := Aside0.mk (blk_below BA.out hb2); clear HD HQ BK HB BA; have HB := Aside0.mk hb; have HD := n0_; have HQ := n1_; have BK := n2_; have BA := n3_; clear n0_ n1_ n2_ n3_ hi hb hb2 hgd)
              | (go_at_call 18; (with_reducible refine (thresherref17_New.calls t _ _ _ _ _ w _ HB.out rfl).mono ?_); rintro e w11 ⟨gr2, rfl, hi, hb, hb2⟩; have n0_ := Aside0.mk (HD.out.below hb2); have n1_ := Aside0.mk hi; have n2_ := Aside0.mk (blk_below BK.out hb2); have n3_ := Aside0.mk (blk_below BA.out hb2); clear HD HQ BK HB BA; have HB := Aside0.mk hb; have HD := n0_; have HQ := n1_; have BK := n2_; have BA := n3_; clear n0_ n1_ n2_ n3_ hi hb hb2)
              | (go_at_call 10; (with_reducible refine (thresherlaw17_num.calls 0 0 _ rfl).mono ?_); rintro e w9 ⟨rfl, hd⟩; have hb := hd.below; clear hd; have n0_ := Aside0.mk (HD.out.below hb); have n1_ := Aside0.mk (HQ.out.below hb); have n2_ := Aside0.mk (blk_below BK.out hb); have n3_ := Aside0.mk (blk_below BA.out hb); have n4_ := Aside0.mk (below_step HB.out hb); clear HD HQ BK HB BA; have HB := n4_; have HD := n0_; have HQ := n1_; have BK := n2_; have BA := n3_; clear n0_ n1_ n2_ n4_ n3_ hb; (try clear hca0); (try clear hca1); (try clear hca2); obtain ⟨hca0, hca1, hca2⟩ := cells3 BA.out))
            have RL := Aside0.mk (rel_new t HT.out)
            go_roundg m
            case measure => omega
            case rel => exact ⟨i + 1, gd2, gr2, t, (t.size : Int), false, -1, 0, false, rfl, rfl, by first | rfl | go_num, ⟨by have := HI.out; omega⟩, ⟨⟨BK.out, HD.out, HQ.out, RL.out, HB.out⟩⟩⟩
        · -- 11
          obtain ⟨t, eD, eQ, ht⟩ := crash_eq AT.out.rel (rd_T40 L i).f1
          have ED := Aside0.mk eD
          have EQ := Aside0.mk eQ
          have HT := Aside0.mk ht
          clear eD eQ ht
          have htt : (t.toList != t.toList) = false := bne_self_eq_false _
          go_wp2_with (first
            | ((with_reducible refine gate_dst (N := 7) rfl ?_); refine box_event ?hg (N := 7) ?hd (cs := #[.int .i64 0, .int .i64 0, .string (⟨#[]⟩ : ByteArray)]) (t := 40) ?hr ?_; (case hd => rfl); (case hg => rfl); (case hr => first | (go_simp; done) | (go_simp; rfl)); intro ga hg w7 hbox hb; have HBA := Aside0.mk hb; have HGA : Aside0 (wr.heap.size ≤ ga) := ⟨Nat.le_of_eq hg.symm⟩; have BA := Aside0.mk hbox; have NA : Aside0 (gd ≠ ga ∧ gr ≠ ga) := ⟨by have h1_ := AT.out.d.lt; omega, by have h1_ := AT.out.r.lt; omega⟩; clear hb hbox hg; obtain ⟨hca0, hca1, hca2⟩ := cells3 BA.out; have hfa := fun i_ => blk_frozen BA.out i_)
            | (go_at_call 19; (with_reducible refine (thresherlaw0_Within.calls _ _ _ _ HV.out).mono ?_); rintro e w8 ⟨rfl, hd⟩; have hb := hd.below; have n0_ := Aside0.mk ((AT.out.step (below_set (below_set (below_set HBA.out HGA.out) HGA.out) HGA.out)).step hb); have n1_ := Aside0.mk (show w8.heap[ga]? = some (.cells #[.int .i64 (rd_T40 L i).f0, .int .i64 (rd_T40 L i).f1, .string (rd_T40 L i).f2] 40 (0, 0)) from blk_below (blk_put (blk_put (blk_put BA.out 0 _ rfl) 1 _ rfl) 2 _ rfl) hb); clear BA hca0 hca1 hca2 hfa hd hb hz0 hz1 HBA HGA; have BA := n1_; have BK := Aside0.mk n0_.out.box; have HD := Aside0.mk n0_.out.d; have HQ := Aside0.mk n0_.out.r; have HB := Aside0.mk n0_.out.below; have NE := Aside0.mk (show gd ≠ gr ∧ gd ≠ gb ∧ gr ≠ gb ∧ gd ≠ ga ∧ gr ≠ ga from ⟨n0_.out.neDR.1, n0_.out.neDR.2.1, n0_.out.neDR.2.2, NA.out.1, NA.out.2⟩); clear n0_ n1_ NA AT; obtain ⟨hca0, hca1, hca2⟩ := cells3 BA.out))
          go_region_held3 (fun w' => w'.cell? ⟨ga, 1, none⟩ = some (.int .i64 (rd_T40 L i).f1)) (first | assumption | go_keep)
            (first
              | (go_at_call 13; (with_reducible refine (disk_Disk_Crash.calls gd s n off left (rd_T40 L i).f1 t s n true left w _ ?s1 ?s2 ED.out).mono ?_); (case s1 => exact HD.out); (case s2 => repeat (first | (with_reducible first | exact HB.out | apply below_alloc | apply pw_below_drewN | apply below_drew1) | exact HB.out)); rintro e w9 ⟨rfl, hi, hb, hk⟩; have n0_ := Aside0.mk hi; have n1_ := Aside0.mk (keepR HQ.out hk (Ne.symm NE.out.1)); have n2_ := Aside0.mk (keepB BK.out hk (Ne.symm NE.out.2.1)); have n3_ := Aside0.mk (keepB BA.out hk (Ne.symm NE.out.2.2.2.1)); clear HD HQ BK HB BA; have HB := Aside0.mk hb; have HD := n0_; have HQ := n1_; have BK := n2_; have BA := n3_; clear n0_ n1_ n2_ n3_ hi hb hk; (try clear hca0); (try clear hca1); (try clear hca2); obtain ⟨hca0, hca1, hca2⟩ := cells3 BA.out)
              | (go_at_call 27; (with_reducible refine (thresherref17_Disk_Crash.calls gr s n l2 armed off (rd_T40 L i).f1 t s n l2 armed true w _ ?s1 ?s2 EQ.out).mono ?_); (case s1 => exact HQ.out); (case s2 => repeat (first | (with_reducible first | exact HB.out | apply below_alloc | apply pw_below_drewN | apply below_drew1) | exact HB.out)); rintro e w9 ⟨rfl, hi, hb, hk⟩; have n0_ := Aside0.mk (keepD HD.out hk NE.out.1); have n1_ := Aside0.mk hi; have n2_ := Aside0.mk (keepB BK.out hk (Ne.symm NE.out.2.2.1)); have n3_ := Aside0.mk (keepB BA.out hk (Ne.symm NE.out.2.2.2.2)); clear HD HQ BK HB BA; have HB := Aside0.mk hb; have HD := n0_; have HQ := n1_; have BK := n2_; have BA := n3_; clear n0_ n1_ n2_ n3_ hi hb hk; (try clear hca0); (try clear hca1); (try clear hca2); obtain ⟨hca0, hca1, hca2⟩ := cells3 BA.out))
          all_goals
            go_wp2_with (first
              | (go_at_call 9; (with_reducible refine (new_ok t HT.out w _ HB.out).mono ?_); rintro e w10 ⟨gd2, rfl, hi, hb, hb2, hgd⟩; have n0_ := Aside0.mk hi; have n1_ := Aside0.mk (HQ.out.below hb2); have n2_ := Aside0.mk (blk_below BK.out hb2); have n3_ := Aside0.mk (blk_below BA.out hb2); clear HD HQ BK HB BA; have HB := Aside0.mk hb; have HD := n0_; have HQ := n1_; have BK := n2_; have BA := n3_; clear n0_ n1_ n2_ n3_ hi hb hb2 hgd)
              | (go_at_call 18; (with_reducible refine (thresherref17_New.calls t _ _ _ _ _ w _ HB.out rfl).mono ?_); rintro e w11 ⟨gr2, rfl, hi, hb, hb2⟩; have n0_ := Aside0.mk (HD.out.below hb2); have n1_ := Aside0.mk hi; have n2_ := Aside0.mk (blk_below BK.out hb2); have n3_ := Aside0.mk (blk_below BA.out hb2); clear HD HQ BK HB BA; have HB := Aside0.mk hb; have HD := n0_; have HQ := n1_; have BK := n2_; have BA := n3_; clear n0_ n1_ n2_ n3_ hi hb hb2)
              | (go_at_call 10; (with_reducible refine (thresherlaw17_num.calls 0 0 _ rfl).mono ?_); rintro e w9 ⟨rfl, hd⟩; have hb := hd.below; clear hd; have n0_ := Aside0.mk (HD.out.below hb); have n1_ := Aside0.mk (HQ.out.below hb); have n2_ := Aside0.mk (blk_below BK.out hb); have n3_ := Aside0.mk (blk_below BA.out hb); have n4_ := Aside0.mk (below_step HB.out hb); clear HD HQ BK HB BA; have HB := n4_; have HD := n0_; have HQ := n1_; have BK := n2_; have BA := n3_; clear n0_ n1_ n2_ n4_ n3_ hb; (try clear hca0); (try clear hca1); (try clear hca2); obtain ⟨hca0, hca1, hca2⟩ := cells3 BA.out))
            have RL := Aside0.mk (rel_new t HT.out)
            go_roundg m
            case measure => omega
            case rel => exact ⟨i + 1, gd2, gr2, t, (t.size : Int), false, -1, 0, false, rfl, rfl, by first | rfl | go_num, ⟨by have := HI.out; omega⟩, ⟨⟨BK.out, HD.out, HQ.out, RL.out, HB.out⟩⟩⟩
      · have hlt1 : decide (i < (L.length : Int)) = true := decide_eq_true hlt
        have h401 : decide (i < 40) = false := decide_eq_false h40
        obtain ⟨t, eD, eQ, ht⟩ := crash_eq AT.out.rel 3
        have ED := Aside0.mk eD
        have EQ := Aside0.mk eQ
        clear eD eQ ht
        have htt : (t.toList == t.toList) = true := beq_self_eq_true _
        have BK := Aside0.mk AT.out.box
        have HD := Aside0.mk AT.out.d
        have HQ := Aside0.mk AT.out.r
        have HB := Aside0.mk AT.out.below
        have NE := Aside0.mk (show gd ≠ gr ∧ gd ≠ gb ∧ gr ≠ gb ∧ True from ⟨AT.out.neDR.1, AT.out.neDR.2.1, AT.out.neDR.2.2, trivial⟩)
        clear AT
        go_wp2_with (first
          | (go_at_call 13; (with_reducible refine (disk_Disk_Crash.calls gd s n off left 3 t s n true left w _ ?s1 ?s2 ED.out).mono ?_); (case s1 => exact HD.out); (case s2 => repeat (first | (with_reducible first | exact HB.out | apply below_alloc | apply pw_below_drewN | apply below_drew1) | exact HB.out)); rintro e w9 ⟨rfl, hi, hb, hk⟩; have n0_ := Aside0.mk hi; have n1_ := Aside0.mk (keepR HQ.out hk (Ne.symm NE.out.1)); have n2_ := Aside0.mk (keepB BK.out hk (Ne.symm NE.out.2.1)); clear HD HQ BK HB; have HB := Aside0.mk hb; have HD := n0_; have HQ := n1_; have BK := n2_; clear n0_ n1_ n2_ hi hb hk)
          | (go_at_call 27; (with_reducible refine (thresherref17_Disk_Crash.calls gr s n l2 armed off 3 t s n l2 armed true w _ ?s1 ?s2 EQ.out).mono ?_); (case s1 => exact HQ.out); (case s2 => repeat (first | (with_reducible first | exact HB.out | apply below_alloc | apply pw_below_drewN | apply below_drew1) | exact HB.out)); rintro e w9 ⟨rfl, hi, hb, hk⟩; have n0_ := Aside0.mk (keepD HD.out hk NE.out.1); have n1_ := Aside0.mk hi; have n2_ := Aside0.mk (keepB BK.out hk (Ne.symm NE.out.2.2.1)); clear HD HQ BK HB; have HB := Aside0.mk hb; have HD := n0_; have HQ := n1_; have BK := n2_; clear n0_ n1_ n2_ hi hb hk)
          | (go_at_call 16; (with_reducible refine (wakes_calls _).mono ?_); rintro e w12 ⟨rfl, hb⟩; have n0_ := Aside0.mk (below_step HB.out hb); clear HB; have HB := n0_; clear n0_ hb))
        go_ret
        exact ⟨by first | rfl | simp, HB.out⟩
    · have hlt1 : decide (i < (L.length : Int)) = false := decide_eq_false hlt
      obtain ⟨t, eD, eQ, ht⟩ := crash_eq AT.out.rel 3
      have ED := Aside0.mk eD
      have EQ := Aside0.mk eQ
      clear eD eQ ht
      have htt : (t.toList == t.toList) = true := beq_self_eq_true _
      have BK := Aside0.mk AT.out.box
      have HD := Aside0.mk AT.out.d
      have HQ := Aside0.mk AT.out.r
      have HB := Aside0.mk AT.out.below
      have NE := Aside0.mk (show gd ≠ gr ∧ gd ≠ gb ∧ gr ≠ gb ∧ True from ⟨AT.out.neDR.1, AT.out.neDR.2.1, AT.out.neDR.2.2, trivial⟩)
      clear AT
      go_wp2_with (first
        | (go_at_call 13; (with_reducible refine (disk_Disk_Crash.calls gd s n off left 3 t s n true left w _ ?s1 ?s2 ED.out).mono ?_); (case s1 => exact HD.out); (case s2 => repeat (first | (with_reducible first | exact HB.out | apply below_alloc | apply pw_below_drewN | apply below_drew1) | exact HB.out)); rintro e w9 ⟨rfl, hi, hb, hk⟩; have n0_ := Aside0.mk hi; have n1_ := Aside0.mk (keepR HQ.out hk (Ne.symm NE.out.1)); have n2_ := Aside0.mk (keepB BK.out hk (Ne.symm NE.out.2.1)); clear HD HQ BK HB; have HB := Aside0.mk hb; have HD := n0_; have HQ := n1_; have BK := n2_; clear n0_ n1_ n2_ hi hb hk)
        | (go_at_call 27; (with_reducible refine (thresherref17_Disk_Crash.calls gr s n l2 armed off 3 t s n l2 armed true w _ ?s1 ?s2 EQ.out).mono ?_); (case s1 => exact HQ.out); (case s2 => repeat (first | (with_reducible first | exact HB.out | apply below_alloc | apply pw_below_drewN | apply below_drew1) | exact HB.out)); rintro e w9 ⟨rfl, hi, hb, hk⟩; have n0_ := Aside0.mk (keepD HD.out hk NE.out.1); have n1_ := Aside0.mk hi; have n2_ := Aside0.mk (keepB BK.out hk (Ne.symm NE.out.2.2.1)); clear HD HQ BK HB; have HB := Aside0.mk hb; have HD := n0_; have HQ := n1_; have BK := n2_; clear n0_ n1_ n2_ hi hb hk)
        | (go_at_call 16; (with_reducible refine (wakes_calls _).mono ?_); rintro e w12 ⟨rfl, hb⟩; have n0_ := Aside0.mk (below_step HB.out hb); clear HB; have HB := n0_; clear n0_ hb))
      go_ret
      exact ⟨by first | rfl | simp, HB.out⟩
end DiskExact
def thresherlaw17_DiskExact.f (k : Nat) (a0_0 : ByteArray) (l0_1 : List (S40)) : Option Bool := (thresherlaw17_heavy.f k a0_0 l0_1).bind fun t => if t = true then some true else if a0_0.size ≤ 131072 ∧ ∀ x ∈ l0_1, x.f1 ≤ 9223372036854775807 then some true else none
theorem thresherlaw17_DiskExact.mono : ∀ a0 a1 k, LeO (thresherlaw17_DiskExact.f k a0 a1) (thresherlaw17_DiskExact.f (k + 1) a0 a1) := by
  intro a0 a1 k
  unfold thresherlaw17_DiskExact.f
  exact LeO.bind (thresherlaw17_heavy.mono _ _ _) (fun _ => LeO.refl _)
set_option maxHeartbeats 8000000 in
set_option maxRecDepth 100000 in
theorem thresherlaw17_DiskExact.calls (k : Nat) (a0_0 : ByteArray) (A0_1 : Option Addr) (c0_1 : Nat) (l0_1 : List (S40)) (r : Bool) (w : World) (hr0_1 : Kd.C k40 w A0_1 l0_1.length l0_1) (hc0_1 : l0_1.length ≤ c0_1) (h : thresherlaw17_DiskExact.f k a0_0 l0_1 = some r) :
    Calls Try.prog 4 #[.agg #[.string a0_0, .slice A0_1 l0_1.length c0_1]] w fun e w' => e = .returned (.bool r) ∧ Below w.heap.size w w' := by
  obtain ⟨t, ht, H⟩ := Option.bind_eq_some_iff.mp h
  clear h
  cases t with
  | true =>
    rw [if_pos rfl] at H
    obtain rfl := Option.some.inj H
    have hu24 := Try.underlying24
    have HR := Aside0.mk hr0_1
    have HC := Aside0.mk hc0_1
    have HH := Aside0.mk ht
    clear hr0_1 hc0_1 ht H
    have HB := Aside0.mk (Below.refl w.heap.size w)
    go_enter Try.func4, Try.ntmps4
    go_wp2_with (first
      | ((with_reducible refine gate_dst (N := 1) rfl ?_); refine box_event ?hg (N := 1) ?hd (cs := #[.string a0_0, .slice A0_1 l0_1.length c0_1]) (t := 24) ?hr ?_; (case hd => rfl); (case hg => rfl); (case hr => first | (go_simp; done) | (go_simp; rfl)); intro gb hg w2 hbox hb; have n0_ := Aside0.mk (below_step HB.out hb); have BK := Aside0.mk hbox; clear HB; have HB := n0_; clear n0_; clear hb hbox hg; obtain ⟨hz0, hz1⟩ := cells2 BK.out; have hzf := fun i_ => blk_frozen BK.out i_)
      | (go_at_call 17; (with_reducible refine (thresherlaw17_heavy.calls k a0_0 A0_1 c0_1 l0_1 true _ ?s1 ?s2 HH.out).mono ?_); (case s1 => exact Kd.C_below HR.out HB.out); (case s2 => exact HC.out); rintro e w3 ⟨rfl, hb⟩; have n0_ := Aside0.mk (below_step HB.out hb); clear HB; have HB := n0_; clear n0_ hb))
    go_ret
    exact ⟨rfl, HB.out⟩
  | false =>
    rw [if_neg (by decide)] at H
    by_cases hc : a0_0.size ≤ 131072 ∧ ∀ x ∈ l0_1, x.f1 ≤ 9223372036854775807
    · rw [if_pos hc] at H
      obtain rfl := Option.some.inj H
      exact DiskExact.exact_calls k a0_0 A0_1 c0_1 l0_1 w hr0_1 hc0_1 ht hc.1 hc.2
    · rw [if_neg hc] at H
      cases H


/-! ### thresherlaw17_only: function 29 -/
def thresherlaw17_only.l0 : Nat → Int → Int → ByteArray → List (S40) → ByteArray → List (S40) → Option (Bool)
  | 0, _, _, _, _, _, _ => none
  | k + 1, x1, x6, x170000, x170001, x172000, x172001 => if x6 < (x170001.length : Int) then (if 0 ≤ x6 then ((some (([2, x1, 0] : List Int) : List Int)).bind fun y174 => (if 0 ≤ (Int.tmod x6 3) then (if (Int.tmod x6 3) < (y174.length : Int) then (if x172001.length < 4398046511104 then (thresherlaw17_only.l0 k x1 (wrap64 (x6 + 1)) x170000 x170001 x172000 (x172001 ++ [(⟨rd y174 (Int.tmod x6 3), (rd_T40 x170001 x6).f1, (rd_T40 x170001 x6).f2⟩ : S40)])) else (none)) else (none)) else (none))) else (none)) else ((thresherlaw17_DiskExact.f k x172000 x172001).bind fun t181 => (some t181))
def thresherlaw17_only.f (k : Nat) (a0_0 : ByteArray) (l0_1 : List (S40)) (a1 : Int) : Option (Bool) := (thresherlaw17_heavy.f k a0_0 l0_1).bind fun t170 => (if t170 = true then (some true) else (thresherlaw17_only.l0 k a1 0 a0_0 l0_1 a0_0 ([] : List (S40))))
theorem thresherlaw17_only.mono_l : ∀ k, (∀ y0 y1 y2 y3 y4 y5, LeO (thresherlaw17_only.l0 k y0 y1 y2 y3 y4 y5) (thresherlaw17_only.l0 (k + 1) y0 y1 y2 y3 y4 y5))
  | 0 => fun _ _ _ _ _ _ r h => by simp [thresherlaw17_only.l0] at h
  | k + 1 => by
    have ih0 := thresherlaw17_only.mono_l k
    · intro y0 y1 y2 y3 y4 y5
      unfold thresherlaw17_only.l0
      repeat' first
      | (with_reducible exact ih0 _ _ _ _ _ _)
      | (with_reducible exact thresherlaw17_DiskExact.mono _ _ _)
      | (with_reducible exact thresherlaw17_heavy.mono _ _ _)
      | (with_reducible exact LeO.refl _)
      | (with_reducible exact LeO.none _)
      | (with_reducible refine LeO.ite ?_ ?_)
      | (with_reducible refine LeO.bind ?_ (fun _ => ?_))
      | exact ih0 _ _ _ _ _ _
      | exact thresherlaw17_DiskExact.mono _ _ _
      | exact thresherlaw17_heavy.mono _ _ _
      | exact LeO.none _
      | refine LeO.ite ?_ ?_
      | refine LeO.bind ?_ (fun _ => ?_)
theorem thresherlaw17_only.mono : ∀ a0 a1 a2 k, LeO (thresherlaw17_only.f k a0 a1 a2) (thresherlaw17_only.f (k + 1) a0 a1 a2) := by
  intro a0 a1 a2 k
  have ih0 := thresherlaw17_only.mono_l k
  unfold thresherlaw17_only.f
  repeat' first
      | (with_reducible exact ih0 _ _ _ _ _ _)
      | (with_reducible exact thresherlaw17_DiskExact.mono _ _ _)
      | (with_reducible exact thresherlaw17_heavy.mono _ _ _)
      | (with_reducible exact LeO.refl _)
      | (with_reducible exact LeO.none _)
      | (with_reducible refine LeO.ite ?_ ?_)
      | (with_reducible refine LeO.bind ?_ (fun _ => ?_))
      | exact ih0 _ _ _ _ _ _
      | exact thresherlaw17_DiskExact.mono _ _ _
      | exact thresherlaw17_heavy.mono _ _ _
      | exact LeO.none _
      | refine LeO.ite ?_ ?_
      | refine LeO.bind ?_ (fun _ => ?_)
set_option maxHeartbeats 8000000 in
set_option maxRecDepth 100000 in
theorem thresherlaw17_only.calls (k : Nat) (a0_0 : ByteArray) (A0_1 : Option Addr) (c0_1 : Nat) (l0_1 : List (S40)) (a1 : Int) (r : Bool) (w : World) (hr0_1 : Kd.C k40 w A0_1 l0_1.length l0_1) (hc0_1 : l0_1.length ≤ c0_1) (h : thresherlaw17_only.f k a0_0 l0_1 a1 = some r) :
    Calls Try.prog 29 #[.agg #[.string a0_0, .slice A0_1 l0_1.length c0_1], .int .i64 a1] w fun e w' => e = .returned (.bool r) ∧ Below w.heap.size w w' := by
  have hu24 := Try.underlying24
  have hu40 := Try.underlying40
  have HR0_1 := Aside0.mk hr0_1
  have HC0_1 := Aside0.mk hc0_1
  clear hr0_1 hc0_1
  have HB := Aside0.mk (Below.refl w.heap.size w)
  have H : ((thresherlaw17_heavy.f k a0_0 l0_1).bind fun t170 => (if t170 = true then (some true) else (thresherlaw17_only.l0 k a1 0 a0_0 l0_1 a0_0 ([] : List (S40))))) = some r := h
  clear h
  replace H := Option.bind_eq_some_iff.mp H
  obtain ⟨t170, A30, H⟩ := H
  replace H : (if t170 = true then (some true) else (thresherlaw17_only.l0 k a1 0 a0_0 l0_1 a0_0 ([] : List (S40)))) = some r := H
  have A3 := Aside0.mk A30
  clear A30
  by_cases c4 : t170 = true
  · subst c4
    have H1 : (some true) = some r := by rw [if_pos rfl] at H; exact H
    clear H
    have H := H1
    clear H1
    obtain rfl := Option.some.inj H
    go_enter Try.func29, Try.ntmps29
    go_wp2_with (first | ((with_reducible refine gate_dst (N := 2) rfl ?_); refine box_event ?hg (N := 2) ?hd (cs := #[.string a0_0, .slice A0_1 l0_1.length c0_1]) (t := 24) ?hr ?_; (case hd => rfl); (case hg => rfl); (case hr => first | (go_simp; done) | (go_simp; rfl)); intro gb169 hg w5 hbox hb; have n0_ := Aside0.mk (below_step (by repeat (first | (with_reducible first | exact HB.out | apply below_alloc | apply pw_below_drewN | apply below_drew1) | exact HB.out)) hb); have n1_ := Aside0.mk (hbox); have n2_ := Aside0.mk ((by rw [hg]; exact (below_size (by repeat (first | (with_reducible first | exact HB.out | apply below_alloc | apply pw_below_drewN | apply below_drew1) | exact HB.out))) : w.heap.size ≤ gb169)); have n3_ := Aside0.mk ((by rw [hg]; exact (below_size (by repeat (first | (with_reducible first | exact HB.out | apply below_alloc | apply pw_below_drewN | apply below_drew1) | exact HB.out))) : w.heap.size ≤ gb169)); clear HB; have HB := n0_; have BK169 := n1_; have GW169 := n2_; have GE169 := n3_; clear n0_ n1_ n2_ n3_; clear hb hbox hg; obtain ⟨hcz6_0, hcz6_1⟩ := cells2 BK169.out; have hfz6_0 := fun i_ => blk_frozen BK169.out i_) | ((with_reducible refine gate_callee (f := 17) rfl ?_); refine goesL_ (some 9) rfl rfl Try.func17 (by kernel_rfl) rfl #[.agg #[.string a0_0, .slice A0_1 l0_1.length c0_1]] rfl (by (try simp only [List.map_toArray, List.map_cons, List.map_nil]); first | done | rfl | (simp only [List.length_drop, List.length_take]; rfl)) ?_; (with_reducible refine (thresherlaw17_heavy.calls k a0_0 _ _ l0_1 true _ ?side1 ?side2 A3.out).mono ?_); (case side1 => repeat (first | exact (Kd.C_below HR0_1.out HB.out) | (with_reducible refine Kd.C_alloc ?_ _) | (with_reducible refine Kd.C_drewN ?_ _) | (with_reducible refine Kd.C_drew ?_))); (case side2 => exact HC0_1.out); rintro e w7 ⟨rfl, hb⟩; refine ⟨_, rfl, ?_⟩; have n0_ := Aside0.mk (blk_below (g := gb169) (o := .cells #[.string a0_0, .slice A0_1 l0_1.length c0_1] 24 (0, 0)) (by (with_reducible repeat (first | refine blk_drewN ?_ _ | refine blk_drew ?_ | refine blk_alloc ?_ _)); exact BK169.out) hb); have n1_ := Aside0.mk (below_step (by repeat (first | (with_reducible first | exact HB.out | apply below_alloc | apply pw_below_drewN | apply below_drew1 | refine below_set ?_ GE169.out) | exact HB.out)) hb); clear BK169; clear HB; have BK169 := n0_; have HB := n1_; clear n0_ n1_; (try clear hb); (try clear hb2); (try clear hk); (try clear hi)))
    go_ret
    exact ⟨by first | rfl | (simp [errW_none, errW_some] <;> rfl) | (simp [*, errW_none, errW_some] <;> rfl), by repeat (first | (with_reducible first | exact HB.out | apply below_alloc | apply pw_below_drewN | apply below_drew1 | refine below_set ?_ GE169.out) | exact HB.out)⟩
  · replace c4 := Bool.eq_false_iff.mpr c4
    subst c4
    have H1 : (thresherlaw17_only.l0 k a1 0 a0_0 l0_1 a0_0 ([] : List (S40))) = some r := by rw [if_neg (show ¬ (false = true) by decide)] at H; exact H
    clear H
    have H := H1
    clear H1
    have H' := Aside0.mk H
    clear H
    go_enter Try.func29, Try.ntmps29
    go_wp2_with (first | ((with_reducible refine gate_dst (N := 2) rfl ?_); refine box_event ?hg (N := 2) ?hd (cs := #[.string a0_0, .slice A0_1 l0_1.length c0_1]) (t := 24) ?hr ?_; (case hd => rfl); (case hg => rfl); (case hr => first | (go_simp; done) | (go_simp; rfl)); intro gb169 hg w8 hbox hb; have n0_ := Aside0.mk (below_step (by repeat (first | (with_reducible first | exact HB.out | apply below_alloc | apply pw_below_drewN | apply below_drew1) | exact HB.out)) hb); have n1_ := Aside0.mk (hbox); have n2_ := Aside0.mk ((by rw [hg]; exact (below_size (by repeat (first | (with_reducible first | exact HB.out | apply below_alloc | apply pw_below_drewN | apply below_drew1) | exact HB.out))) : w.heap.size ≤ gb169)); have n3_ := Aside0.mk ((by rw [hg]; exact (below_size (by repeat (first | (with_reducible first | exact HB.out | apply below_alloc | apply pw_below_drewN | apply below_drew1) | exact HB.out))) : w.heap.size ≤ gb169)); clear HB; have HB := n0_; have BK169 := n1_; have GW169 := n2_; have GE169 := n3_; clear n0_ n1_ n2_ n3_; clear hb hbox hg; obtain ⟨hcz9_0, hcz9_1⟩ := cells2 BK169.out; have hfz9_0 := fun i_ => blk_frozen BK169.out i_) | ((with_reducible refine gate_callee (f := 17) rfl ?_); refine goesL_ (some 9) rfl rfl Try.func17 (by kernel_rfl) rfl #[.agg #[.string a0_0, .slice A0_1 l0_1.length c0_1]] rfl (by (try simp only [List.map_toArray, List.map_cons, List.map_nil]); first | done | rfl | (simp only [List.length_drop, List.length_take]; rfl)) ?_; (with_reducible refine (thresherlaw17_heavy.calls k a0_0 _ _ l0_1 false _ ?side1 ?side2 A3.out).mono ?_); (case side1 => repeat (first | exact (Kd.C_below HR0_1.out HB.out) | (with_reducible refine Kd.C_alloc ?_ _) | (with_reducible refine Kd.C_drewN ?_ _) | (with_reducible refine Kd.C_drew ?_))); (case side2 => exact HC0_1.out); rintro e w10 ⟨rfl, hb⟩; refine ⟨_, rfl, ?_⟩; have n0_ := Aside0.mk (blk_below (g := gb169) (o := .cells #[.string a0_0, .slice A0_1 l0_1.length c0_1] 24 (0, 0)) (by (with_reducible repeat (first | refine blk_drewN ?_ _ | refine blk_drew ?_ | refine blk_alloc ?_ _)); exact BK169.out) hb); have n1_ := Aside0.mk (below_step (by repeat (first | (with_reducible first | exact HB.out | apply below_alloc | apply pw_below_drewN | apply below_drew1 | refine below_set ?_ GE169.out) | exact HB.out)) hb); clear BK169; clear HB; have BK169 := n0_; have HB := n1_; clear n0_ n1_; (try clear hb); (try clear hb2); (try clear hk); (try clear hi); obtain ⟨hcz11_0, hcz11_1⟩ := cells2 BK169.out; have hfz11_0 := fun i_ => blk_frozen BK169.out i_) | ((with_reducible refine gate_dst (N := 5) rfl ?_); refine box_event ?hg (N := 5) ?hd (cs := #[.string (⟨#[]⟩ : ByteArray), .slice none 0 0]) (t := 24) ?hr ?_; (case hd => rfl); (case hg => rfl); (case hr => first | (go_simp; done) | (go_simp; rfl)); intro gb171 hg w12 hbox hb; have n0_ := Aside0.mk (blk_below (g := gb169) (o := .cells #[.string a0_0, .slice A0_1 l0_1.length c0_1] 24 (0, 0)) (by (with_reducible repeat (first | refine blk_drewN ?_ _ | refine blk_drew ?_ | refine blk_alloc ?_ _)); exact BK169.out) hb); have n1_ := Aside0.mk (below_step (by repeat (first | (with_reducible first | exact HB.out | apply below_alloc | apply pw_below_drewN | apply below_drew1 | refine below_set ?_ GE169.out) | exact HB.out)) hb); have n2_ := Aside0.mk (hbox); have n3_ := Aside0.mk ((by rw [hg]; exact (below_size (by repeat (first | (with_reducible first | exact HB.out | apply below_alloc | apply pw_below_drewN | apply below_drew1 | refine below_set ?_ GE169.out) | exact HB.out))) : w.heap.size ≤ gb171)); have n4_ := Aside0.mk ((by rw [hg]; exact (below_size (by repeat (first | (with_reducible first | exact HB.out | apply below_alloc | apply pw_below_drewN | apply below_drew1 | refine below_set ?_ GE169.out) | exact HB.out))) : w.heap.size ≤ gb171)); have n5_ := Aside0.mk ((by rw [hg]; exact Nat.ne_of_lt (blk_lt (g := gb169) (o := .cells #[.string a0_0, .slice A0_1 l0_1.length c0_1] 24 (0, 0)) (by (with_reducible repeat (first | refine blk_drewN ?_ _ | refine blk_drew ?_ | refine blk_alloc ?_ _)); exact BK169.out)) : gb169 ≠ gb171)); have n6_ := Aside0.mk ((by rw [hg]; exact Nat.ne_of_gt (blk_lt (g := gb169) (o := .cells #[.string a0_0, .slice A0_1 l0_1.length c0_1] 24 (0, 0)) (by (with_reducible repeat (first | refine blk_drewN ?_ _ | refine blk_drew ?_ | refine blk_alloc ?_ _)); exact BK169.out)) : gb171 ≠ gb169)); clear BK169; clear HB; have BK169 := n0_; have HB := n1_; have BK171 := n2_; have GW171 := n3_; have GE171 := n4_; have NB169_171 := n5_; have NB171_169 := n6_; clear n0_ n1_ n2_ n3_ n4_ n5_ n6_; clear hb hbox hg; have hnb13 := NB171_169.out; have hnc13 := NB169_171.out; obtain ⟨hcz14_0, hcz14_1⟩ := cells2 BK171.out; have hfz14_0 := fun i_ => blk_frozen BK171.out i_))
    go_loopg [6] k (fun kq v6 w' => ∃ (x6_1 : Int) (x172001_1 : List (S40)) (u172001 : Value), v6 = .int .i64 x6_1 ∧ Aside0 (thresherlaw17_only.l0 kq a1 x6_1 a0_0 l0_1 a0_0 x172001_1 = some r) ∧ Aside0 (kq ≤ k) ∧ Aside0 (Kd.R k40 40 w' w.heap.size (fun _ => True) u172001 x172001_1) ∧ Aside0 (w'.heap[gb169]? = some (.cells #[.string a0_0, (.slice A0_1 l0_1.length c0_1)] 24 (0, 0))) ∧ Aside0 (w'.heap[gb171]? = some (.cells #[.string a0_0, u172001] 24 (0, 0))) ∧ Aside0 (Below w.heap.size w w'))
    case atStart => exact ⟨(0), (([] : List (S40))), (.slice none 0 0), (by first | rfl | (simp; done) | (simp [*]; done)), H', ⟨Nat.le_refl _⟩, ⟨by first | exact Kd.R_nil _ _ _ _ _ | exact Kd.N_nil _ _ _ _ _ | exact Kd.V_nil _ _ _ _ _ | exact Kd.Q_nil _ _ _ _ _ | exact Kd.S_nil _ _ _ _ _⟩, ⟨by (with_reducible repeat (first | refine blk_drewN ?_ _ | refine blk_drew ?_ | refine blk_alloc ?_ _ | refine blk_far ?_ NB169_171.out _)); exact BK169.out⟩, ⟨by (with_reducible repeat (first | refine blk_drewN ?_ _ | refine blk_drew ?_ | refine blk_alloc ?_ _)); refine blk_put (cs := #[.string a0_0, .slice none 0 0]) ?_ 1 _ rfl; (with_reducible repeat (first | refine blk_drewN ?_ _ | refine blk_drew ?_ | refine blk_alloc ?_ _)); refine blk_put (cs := #[.string (⟨#[]⟩ : ByteArray), .slice none 0 0]) ?_ 0 _ rfl; (with_reducible repeat (first | refine blk_drewN ?_ _ | refine blk_drew ?_ | refine blk_alloc ?_ _)); exact BK171.out⟩, ⟨by repeat (first | (with_reducible first | exact HB.out | apply below_alloc | apply pw_below_drewN | apply below_drew1 | refine below_set ?_ GE169.out | refine below_set ?_ GE171.out) | exact HB.out)⟩⟩
    case round =>
      clear H'
      (try clear c1); (try clear c2); (try clear p2); (try clear c4); (try clear c13); (try clear hcz11_0); (try clear hcz11_1); (try clear hcz14_0); (try clear hcz14_1); (try clear hcz6_0); (try clear hcz6_1); (try clear hcz9_0); (try clear hcz9_1); (try clear hfz11_0); (try clear hfz14_0); (try clear hfz6_0); (try clear hfz9_0)
      obtain ⟨x6_1, x172001_1, u172001, rfl, HA, HK1, HO_172001, BK169, BK171, HB⟩ := hrel
      cases gk with
      | zero => exact absurd HA.out (by simp [thresherlaw17_only.l0])
      | succ k1 =>
        have H := HA.out
        clear HA
        simp only [thresherlaw17_only.l0] at H
        by_cases c15 : x6_1 < (l0_1.length : Int)
        · rw [if_pos c15] at H
          have c15b0 : decide (x6_1 < (l0_1.length : Int)) = true := decide_eq_true c15
          clear c15
          by_cases c16 : 0 ≤ x6_1
          · rw [if_pos c16] at H
            have c16b0 : decide (0 ≤ x6_1) = true := decide_eq_true c16
            clear c16
            obtain ⟨y174, hy174⟩ : ∃ y_ : List Int, y_ = (([2, a1, 0] : List Int)) := ⟨_, rfl⟩
            replace H : (if 0 ≤ (Int.tmod x6_1 3) then (if (Int.tmod x6_1 3) < (y174.length : Int) then (if x172001_1.length < 4398046511104 then (thresherlaw17_only.l0 k1 a1 (wrap64 (x6_1 + 1)) a0_0 l0_1 a0_0 (x172001_1 ++ [(⟨rd y174 (Int.tmod x6_1 3), (rd_T40 l0_1 x6_1).f1, (rd_T40 l0_1 x6_1).f2⟩ : S40)])) else (none)) else (none)) else (none)) = some r := by first | (rw [hy174]; with_reducible exact H) | (have H2_ := (Option.bind_some _ _).symm.trans H; rw [hy174]; with_reducible exact H2_) | (have H2_ := (Option.bind_some _ _).symm.trans H; with_reducible exact H2_) | with_reducible exact H | (rw [hy174]; exact H) | exact H
            have Ny174 := Aside0.mk hy174
            clear hy174
            obtain ⟨ji17, hji17⟩ : ∃ j_ : Int, (Int.tmod x6_1 3) = j_ := ⟨_, rfl⟩
            replace H : (if 0 ≤ (ji17) then (if (ji17) < (y174.length : Int) then (if x172001_1.length < 4398046511104 then (thresherlaw17_only.l0 k1 a1 (wrap64 (x6_1 + 1)) a0_0 l0_1 a0_0 (x172001_1 ++ [(⟨rd y174 (ji17), (rd_T40 l0_1 x6_1).f1, (rd_T40 l0_1 x6_1).f2⟩ : S40)])) else (none)) else (none)) else (none)) = some r := by first | (rw [hji17] at H; exact H) | (simp only [hji17] at H ⊢; exact H)
            by_cases c18 : 0 ≤ (ji17)
            · rw [if_pos c18] at H
              have c18b0 : decide (0 ≤ (ji17)) = true := decide_eq_true c18
              clear c18
              by_cases c19 : (ji17) < (y174.length : Int)
              · rw [if_pos c19] at H
                have c19b0 : decide ((ji17) < (y174.length : Int)) = true := decide_eq_true c19
                clear c19
                by_cases c20 : x172001_1.length < 4398046511104
                · rw [if_pos c20] at H
                  have LMc20 := Aside0.mk c20
                  clear c20
                  obtain ⟨y178, hy178⟩ : ∃ y_ : List (S40), y_ = (x172001_1 ++ [(⟨rd y174 (ji17), (rd_T40 l0_1 x6_1).f1, (rd_T40 l0_1 x6_1).f2⟩ : S40)]) := ⟨_, rfl⟩
                  replace H : (thresherlaw17_only.l0 k1 a1 (wrap64 (x6_1 + 1)) a0_0 l0_1 a0_0 y178) = some r := by first | (rw [hy178]; with_reducible exact H) | (have H2_ := (Option.bind_some _ _).symm.trans H; rw [hy178]; with_reducible exact H2_) | (have H2_ := (Option.bind_some _ _).symm.trans H; with_reducible exact H2_) | with_reducible exact H | (rw [hy178]; exact H) | exact H
                  have Ny178 := Aside0.mk hy178
                  clear hy178
                  have H' := Aside0.mk H
                  clear H
                  have hnb21 := NB169_171.out
                  have hnc21 := NB171_169.out
                  obtain ⟨hcz22_0, hcz22_1⟩ := cells2 BK169.out
                  have hfz22_0 := fun i_ => blk_frozen BK169.out i_
                  have p172 : 0 ≤ (x6_1 : Int) := of_decide_eq_true (by first | (with_reducible assumption) | assumption)
                  have q172 : x6_1 < (l0_1.length : Int) := of_decide_eq_true (by first | (with_reducible assumption) | assumption)
                  obtain ⟨ad172, e172, hx172_0, hx172_1, hx172_2⟩ := at_T40 HR0_1.out x6_1 p172 q172
                  cases e172
                  replace hx172_0 := (HB.out.cell (World.block_lt_of_cell? w _ hx172_0)).trans hx172_0
                  replace hx172_1 := (HB.out.cell (World.block_lt_of_cell? w _ hx172_1)).trans hx172_1
                  replace hx172_2 := (HB.out.cell (World.block_lt_of_cell? w _ hx172_2)).trans hx172_2
                  replace p172 := eq_true p172
                  replace q172 := eq_true q172
                  go_wp2_with (first | ((with_reducible refine gate_dst (N := 7) rfl ?_); refine box_event ?hg (N := 7) ?hd (cs := #[.int .i64 0, .int .i64 0, .string (⟨#[]⟩ : ByteArray)]) (t := 40) ?hr ?_; (case hd => rfl); (case hg => rfl); (case hr => first | (go_simp; done) | (go_simp; rfl)); intro gb173 hg w23 hbox hb; have n0_ := Aside0.mk (Kd.R_below (Kd.R_elderB (by (with_reducible repeat (first | apply Kd.R_alloc | apply Kd.R_drewN | apply Kd.R_drew)); exact HO_172001.out) gb173 (Nat.le_of_eq hg.symm)) hb); have n1_ := Aside0.mk (blk_below (g := gb169) (o := .cells #[.string a0_0, .slice (some ad172) l0_1.length c0_1] 24 (0, 0)) (by (with_reducible repeat (first | refine blk_drewN ?_ _ | refine blk_drew ?_ | refine blk_alloc ?_ _)); exact BK169.out) hb); have n2_ := Aside0.mk (blk_below (g := gb171) (o := .cells #[.string a0_0, u172001] 24 (0, 0)) (by (with_reducible repeat (first | refine blk_drewN ?_ _ | refine blk_drew ?_ | refine blk_alloc ?_ _)); exact BK171.out) hb); have n3_ := Aside0.mk (below_step (by repeat (first | (with_reducible first | exact HB.out | apply below_alloc | apply pw_below_drewN | apply below_drew1 | refine below_set ?_ GE169.out | refine below_set ?_ GE171.out) | exact HB.out)) hb); have n4_ := Aside0.mk (hbox); have n5_ := Aside0.mk ((by rw [hg]; exact (below_size (by repeat (first | (with_reducible first | exact HB.out | apply below_alloc | apply pw_below_drewN | apply below_drew1 | refine below_set ?_ GE169.out | refine below_set ?_ GE171.out) | exact HB.out))) : w.heap.size ≤ gb173)); have n6_ := Aside0.mk ((by rw [hg]; exact (below_size (by repeat (first | (with_reducible first | exact HB.out | apply below_alloc | apply pw_below_drewN | apply below_drew1 | refine below_set ?_ GE169.out | refine below_set ?_ GE171.out) | exact HB.out))) : w.heap.size ≤ gb173)); have n7_ := Aside0.mk ((by rw [hg]; exact Nat.ne_of_lt (blk_lt (g := gb169) (o := .cells #[.string a0_0, .slice (some ad172) l0_1.length c0_1] 24 (0, 0)) (by (with_reducible repeat (first | refine blk_drewN ?_ _ | refine blk_drew ?_ | refine blk_alloc ?_ _)); exact BK169.out)) : gb169 ≠ gb173)); have n8_ := Aside0.mk ((by rw [hg]; exact Nat.ne_of_gt (blk_lt (g := gb169) (o := .cells #[.string a0_0, .slice (some ad172) l0_1.length c0_1] 24 (0, 0)) (by (with_reducible repeat (first | refine blk_drewN ?_ _ | refine blk_drew ?_ | refine blk_alloc ?_ _)); exact BK169.out)) : gb173 ≠ gb169)); have n9_ := Aside0.mk ((by rw [hg]; exact Nat.ne_of_lt (blk_lt (g := gb171) (o := .cells #[.string a0_0, u172001] 24 (0, 0)) (by (with_reducible repeat (first | refine blk_drewN ?_ _ | refine blk_drew ?_ | refine blk_alloc ?_ _)); exact BK171.out)) : gb171 ≠ gb173)); have n10_ := Aside0.mk ((by rw [hg]; exact Nat.ne_of_gt (blk_lt (g := gb171) (o := .cells #[.string a0_0, u172001] 24 (0, 0)) (by (with_reducible repeat (first | refine blk_drewN ?_ _ | refine blk_drew ?_ | refine blk_alloc ?_ _)); exact BK171.out)) : gb173 ≠ gb171)); clear HO_172001; clear BK169; clear BK171; clear HB; have HO_172001 := n0_; have BK169 := n1_; have BK171 := n2_; have HB := n3_; have BK173 := n4_; have GW173 := n5_; have GE173 := n6_; have NB169_173 := n7_; have NB173_169 := n8_; have NB171_173 := n9_; have NB173_171 := n10_; clear n0_ n1_ n2_ n3_ n4_ n5_ n6_ n7_ n8_ n9_ n10_; clear hb hbox hg; have hnb24 := NB173_169.out; have hnc24 := NB169_173.out; have hnb25 := NB173_171.out; have hnc25 := NB171_173.out; obtain ⟨hcz26_0, hcz26_1, hcz26_2⟩ := cells3 BK173.out; have hfz26_0 := fun i_ => blk_frozen BK173.out i_) | ((with_reducible refine gate_dst (N := 26) rfl ?_); refine Kd.R_lit (Kd.int .i64) _ 3 ?hg (N := 26) ?hd (xs := ([2, a1, 0] : List Int)) (inner := [.int .i64 2, .int .i64 a1, .int .i64 0]) (ok := fun _ => True) (okp := fun _ => True) ?hr ?hp (fun _ hk => hk) trivial (Below.refl _ _) (Nat.le_refl _) (by simp) ?_; (case hd => rfl); (case hg => rfl); (case hr => first | (go_simp; done) | (go_simp; rfl)); (case hp => exact (Reps.one (show Kd.M (Kd.int .i64) _ _ _ 2 [.int .i64 2] from rfl) (Reps.one (show Kd.M (Kd.int .i64) _ _ _ a1 [.int .i64 a1] from rfl) (Reps.one (show Kd.M (Kd.int .i64) _ _ _ 0 [.int .i64 0] from rfl) (Reps.none _ _))))); intro v175 w27 ho28 hb hg_ hnew_; clear hg_ hnew_; (first | rw [← Ny174.out] at ho28 | (simp only [Int.reduceToNat] at ho28; rw [← Ny174.out] at ho28)); have n0_ := Aside0.mk (Kd.R_below (by (with_reducible repeat (first | apply Kd.R_alloc | apply Kd.R_drewN | apply Kd.R_drew)); exact (Kd.R_mono (Kd.R_far (p := ⟨gb173, 2, none⟩) (Kd.R_far (p := ⟨gb173, 1, none⟩) (Kd.R_far (p := ⟨gb173, 0, none⟩) (Kd.R_mono HO_172001.out (fun k_ hk => (⟨hk, hk.2⟩ : _ ∧ k_ ≠ gb173))) (fun _ hk => by first | exact hk.2 | trivial) (.int .i64 ((rd_T40 l0_1 x6_1).f0))) (fun _ hk => by first | exact hk.2 | trivial) (.int .i64 ((rd_T40 l0_1 x6_1).f1))) (fun _ hk => by first | exact hk.2 | trivial) (.string ((rd_T40 l0_1 x6_1).f2))) (fun _ h_ => h_.1))) hb); have n1_ := Aside0.mk (Kd.R_lower ho28 (below_size (by repeat (first | (with_reducible first | exact HB.out | apply below_alloc | apply pw_below_drewN | apply below_drew1 | refine below_set ?_ GE169.out | refine below_set ?_ GE171.out | refine below_set ?_ GE173.out) | exact HB.out)))); have n2_ := Aside0.mk (blk_below (g := gb169) (o := .cells #[.string a0_0, .slice (some ad172) l0_1.length c0_1] 24 (0, 0)) (by (with_reducible repeat (first | refine blk_drewN ?_ _ | refine blk_drew ?_ | refine blk_alloc ?_ _ | refine blk_far ?_ NB169_173.out _)); exact BK169.out) hb); have n3_ := Aside0.mk (blk_below (g := gb171) (o := .cells #[.string a0_0, u172001] 24 (0, 0)) (by (with_reducible repeat (first | refine blk_drewN ?_ _ | refine blk_drew ?_ | refine blk_alloc ?_ _ | refine blk_far ?_ NB171_173.out _)); exact BK171.out) hb); have n4_ := Aside0.mk (blk_below (g := gb173) (o := .cells #[.int .i64 ((rd_T40 l0_1 x6_1).f0), .int .i64 ((rd_T40 l0_1 x6_1).f1), .string ((rd_T40 l0_1 x6_1).f2)] 40 (0, 0)) (by (with_reducible repeat (first | refine blk_drewN ?_ _ | refine blk_drew ?_ | refine blk_alloc ?_ _)); refine blk_put (cs := #[.int .i64 ((rd_T40 l0_1 x6_1).f0), .int .i64 ((rd_T40 l0_1 x6_1).f1), .string (⟨#[]⟩ : ByteArray)]) ?_ 2 _ rfl; (with_reducible repeat (first | refine blk_drewN ?_ _ | refine blk_drew ?_ | refine blk_alloc ?_ _)); refine blk_put (cs := #[.int .i64 ((rd_T40 l0_1 x6_1).f0), .int .i64 0, .string (⟨#[]⟩ : ByteArray)]) ?_ 1 _ rfl; (with_reducible repeat (first | refine blk_drewN ?_ _ | refine blk_drew ?_ | refine blk_alloc ?_ _)); refine blk_put (cs := #[.int .i64 0, .int .i64 0, .string (⟨#[]⟩ : ByteArray)]) ?_ 0 _ rfl; (with_reducible repeat (first | refine blk_drewN ?_ _ | refine blk_drew ?_ | refine blk_alloc ?_ _)); exact BK173.out) hb); have n5_ := Aside0.mk (below_step (by repeat (first | (with_reducible first | exact HB.out | apply below_alloc | apply pw_below_drewN | apply below_drew1 | refine below_set ?_ GE169.out | refine below_set ?_ GE171.out | refine below_set ?_ GE173.out) | exact HB.out)) hb); clear HO_172001; clear BK169; clear BK171; clear BK173; clear HB; have HO_172001 := n0_; have HO176 := n1_; have BK169 := n2_; have BK171 := n3_; have BK173 := n4_; have HB := n5_; clear n0_ n1_ n2_ n3_ n4_ n5_; clear hb ho28; obtain ⟨Ao29, co29, eo29⟩ := Kd.R_slice HO176.out; subst eo29; have p177 : 0 ≤ ((ji17) : Int) := of_decide_eq_true (by first | (with_reducible assumption) | assumption); have q177 : (ji17) < (y174.length : Int) := of_decide_eq_true (by first | (with_reducible assumption) | assumption); obtain ⟨ad177, e177, hx177_0⟩ := Kd.at_int (Kd.R_reads' HO176.out).2.2 (ji17) p177 q177; cases e177; replace p177 := eq_true p177; replace q177 := eq_true q177; obtain ⟨hcz30_0, hcz30_1, hcz30_2⟩ := cells3 BK173.out; have hfz30_0 := fun i_ => blk_frozen BK173.out i_; obtain ⟨hcz31_0, hcz31_1⟩ := cells2 BK171.out; have hfz31_0 := fun i_ => blk_frozen BK171.out i_) | ((with_reducible refine gate_builtin (b := .append) (xs := #[.tmp 33, .tmp 35]) rfl ?_); at_builtin; refine Kd.R_append k40 (w0 := w) w.heap.size rfl (.tmp 33) (.tmp 35) 22 40 (.agg #[(.int .i64 0), (.int .i64 0), (.string ⟨#[]⟩)]) 32 rfl Try.underlying22 info40 rfl (by decide) (by omega) u172001 x172001_1 (⟨rd y174 (ji17), (rd_T40 l0_1 x6_1).f1, (rd_T40 l0_1 x6_1).f2⟩ : S40) [.int .i64 (rd y174 (ji17)), .int .i64 ((rd_T40 l0_1 x6_1).f1), .string ((rd_T40 l0_1 x6_1).f2)] (fun k_ => k_ ≠ gb173) (fun _ => False) rfl (by first | (go_simp; done) | (go_simp; rfl)) ?aP (fun _ hk => hk.elim) ?aF ?aO ?aB ?aS ?aL ?_; (case aP => exact k40_mkM _ _ _ (⟨rd y174 (ji17), (rd_T40 l0_1 x6_1).f1, (rd_T40 l0_1 x6_1).f2⟩ : S40)); (case aB => exact (by repeat (first | (with_reducible first | exact HB.out | apply below_alloc | apply pw_below_drewN | apply below_drew1 | refine below_set ?_ GE169.out | refine below_set ?_ GE171.out | refine below_set ?_ GE173.out) | exact HB.out))); (case aF => exact (fun k_ hk => Kd.freshB (g := gb173) (o := .cells #[.int .i64 (rd y174 (ji17)), .int .i64 ((rd_T40 l0_1 x6_1).f1), .string ((rd_T40 l0_1 x6_1).f2)] 40 (0, 0)) (by (with_reducible repeat (first | refine blk_drewN ?_ _ | refine blk_drew ?_ | refine blk_alloc ?_ _)); refine blk_put (cs := #[.int .i64 ((rd_T40 l0_1 x6_1).f0), .int .i64 ((rd_T40 l0_1 x6_1).f1), .string ((rd_T40 l0_1 x6_1).f2)]) ?_ 0 _ rfl; (with_reducible repeat (first | refine blk_drewN ?_ _ | refine blk_drew ?_ | refine blk_alloc ?_ _)); exact BK173.out) k_ hk)); (case aO => exact (by (with_reducible repeat (first | apply Kd.R_alloc | apply Kd.R_drewN | apply Kd.R_drew)); exact Kd.R_mono (Kd.R_far (p := ⟨gb173, 0, none⟩) (Kd.R_mono HO_172001.out (fun k_ hk => (⟨hk, hk.2⟩ : _ ∧ k_ ≠ gb173))) (fun _ hk => by first | exact hk.2 | trivial) (.int .i64 (rd y174 (ji17)))) (fun _ hk => hk.1.2))); (case aS => exact (below_size (by repeat (first | (with_reducible first | exact HB.out | apply below_alloc | apply pw_below_drewN | apply below_drew1 | refine below_set ?_ GE169.out | refine below_set ?_ GE171.out | refine below_set ?_ GE173.out) | exact HB.out)))); (case aL => have := LMc20.out; omega); intro v179 w32 ho hb hg hat; rw [← Ny178.out] at ho; have n0_ := Aside0.mk (blk_grown (g := gb169) (o := .cells #[.string a0_0, .slice (some ad172) l0_1.length c0_1] 24 (0, 0)) (by (with_reducible repeat (first | refine blk_drewN ?_ _ | refine blk_drew ?_ | refine blk_alloc ?_ _)); refine blk_far ?_ NB169_173.out _; (with_reducible repeat (first | refine blk_drewN ?_ _ | refine blk_drew ?_ | refine blk_alloc ?_ _)); exact BK169.out) hg (Kd.R_ne HO_172001.out BK169.out (by decide))); have n1_ := Aside0.mk (blk_grown (g := gb171) (o := .cells #[.string a0_0, u172001] 24 (0, 0)) (by (with_reducible repeat (first | refine blk_drewN ?_ _ | refine blk_drew ?_ | refine blk_alloc ?_ _)); refine blk_far ?_ NB171_173.out _; (with_reducible repeat (first | refine blk_drewN ?_ _ | refine blk_drew ?_ | refine blk_alloc ?_ _)); exact BK171.out) hg (Kd.R_ne HO_172001.out BK171.out (by decide))); have n2_ := Aside0.mk (blk_grown (g := gb173) (o := .cells #[.int .i64 (rd y174 (ji17)), .int .i64 ((rd_T40 l0_1 x6_1).f1), .string ((rd_T40 l0_1 x6_1).f2)] 40 (0, 0)) (by (with_reducible repeat (first | refine blk_drewN ?_ _ | refine blk_drew ?_ | refine blk_alloc ?_ _)); refine blk_put (cs := #[.int .i64 ((rd_T40 l0_1 x6_1).f0), .int .i64 ((rd_T40 l0_1 x6_1).f1), .string ((rd_T40 l0_1 x6_1).f2)]) ?_ 0 _ rfl; (with_reducible repeat (first | refine blk_drewN ?_ _ | refine blk_drew ?_ | refine blk_alloc ?_ _)); exact BK173.out) hg (Kd.R_away HO_172001.out (fun _ hk => by first | exact hk.2 | trivial))); have n3_ := Aside0.mk (Kd.R_over' (by (with_reducible repeat (first | apply Kd.R_alloc | apply Kd.R_drewN | apply Kd.R_drew)); exact (Kd.R_mono (Kd.R_far (p := ⟨gb173, 0, none⟩) (Kd.R_types HO176.out BK173.out (by decide)) (fun _ hk => by first | exact hk.2 | trivial) (.int .i64 (rd y174 (ji17)))) (fun _ h_ => h_.1))) (Kd.R_typed (by (with_reducible repeat (first | apply Kd.R_alloc | apply Kd.R_drewN | apply Kd.R_drew)); exact (Kd.R_mono (Kd.R_far (p := ⟨gb173, 0, none⟩) (Kd.R_mono HO_172001.out (fun k_ hk => (⟨hk, hk.2⟩ : _ ∧ k_ ≠ gb173))) (fun _ hk => by first | exact hk.2 | trivial) (.int .i64 (rd y174 (ji17)))) (fun _ h_ => h_.1)))) (by decide) hg); have n4_ := Aside0.mk (hb); have n5_ := Aside0.mk (ho); clear BK169; clear BK171; clear BK173; clear HO176; clear HB; clear HO_172001; have BK169 := n0_; have BK171 := n1_; have BK173 := n2_; have HO176 := n3_; have HB := n4_; have HO180 := n5_; clear n0_ n1_ n2_ n3_ n4_ n5_; clear ho hb hg hat; obtain ⟨Ao33, co33, eo33⟩ := Kd.R_slice HO180.out; subst eo33; obtain ⟨hcz34_0, hcz34_1⟩ := cells2 BK171.out; have hfz34_0 := fun i_ => blk_frozen BK171.out i_))
                  go_roundg k1
                  case measure => have := HK1.out; omega
                  case rel => exact ⟨(wrap64 (x6_1 + 1)), (y178), (.slice Ao33 y178.length co33), (by first | rfl | (simp; done) | (simp [*]; done)), H', ⟨by have := HK1.out; omega⟩, ⟨by (with_reducible repeat (first | apply Kd.R_alloc | apply Kd.R_drewN | apply Kd.R_drew)); exact Kd.R_mono (Kd.R_far (p := ⟨gb171, 1, none⟩) (Kd.R_types HO180.out BK171.out (by decide)) (fun _ hk => by first | exact hk.2 | trivial) (.slice Ao33 y178.length co33)) (fun _ hk => trivial)⟩, ⟨by (with_reducible repeat (first | refine blk_drewN ?_ _ | refine blk_drew ?_ | refine blk_alloc ?_ _)); refine blk_far ?_ NB169_171.out _; (with_reducible repeat (first | refine blk_drewN ?_ _ | refine blk_drew ?_ | refine blk_alloc ?_ _)); exact BK169.out⟩, ⟨by (with_reducible repeat (first | refine blk_drewN ?_ _ | refine blk_drew ?_ | refine blk_alloc ?_ _)); refine blk_put (cs := #[.string a0_0, u172001]) ?_ 1 _ rfl; (with_reducible repeat (first | refine blk_drewN ?_ _ | refine blk_drew ?_ | refine blk_alloc ?_ _)); exact BK171.out⟩, ⟨by repeat (first | (with_reducible first | exact HB.out | apply below_alloc | apply pw_below_drewN | apply below_drew1 | refine below_set ?_ GE169.out | refine below_set ?_ GE171.out | refine below_set ?_ GE173.out) | exact HB.out)⟩⟩
                · rw [if_neg c20] at H
                  exact absurd H (by simp)
              · rw [if_neg c19] at H
                exact absurd H (by simp)
            · rw [if_neg c18] at H
              exact absurd H (by simp)
          · rw [if_neg c16] at H
            exact absurd H (by simp)
        · rw [if_neg c15] at H
          have c15b0 : decide (x6_1 < (l0_1.length : Int)) = false := decide_eq_false c15
          clear c15
          replace H := Option.bind_eq_some_iff.mp H
          obtain ⟨t181, A350, H⟩ := H
          replace H : (some t181) = some r := H
          have A35 := Aside0.mk A350
          clear A350
          obtain rfl := Option.some.inj H
          have hnb36 := NB169_171.out
          have hnc36 := NB171_169.out
          obtain ⟨hcz37_0, hcz37_1⟩ := cells2 BK169.out
          have hfz37_0 := fun i_ => blk_frozen BK169.out i_
          obtain ⟨hcz38_0, hcz38_1⟩ := cells2 BK171.out
          have hfz38_0 := fun i_ => blk_frozen BK171.out i_
          obtain ⟨Ao39, co39, eo39⟩ := Kd.R_slice HO_172001.out
          subst eo39
          go_wp2_with (first | ((with_reducible refine gate_callee (f := 4) rfl ?_); refine goesL_ (some 39) rfl rfl Try.func4 (by kernel_rfl) rfl #[.agg #[.string a0_0, .slice Ao39 x172001_1.length co39]] rfl (by (try simp only [List.map_toArray, List.map_cons, List.map_nil]); first | done | rfl | (simp only [List.length_drop, List.length_take]; rfl)) ?_; (with_reducible refine (thresherlaw17_DiskExact.calls k1 a0_0 _ _ x172001_1 t181 _ ?side1 ?side2 A35.out).mono ?_); (case side1 => repeat (first | exact (Kd.R_reads' HO_172001.out).2.2 | (with_reducible refine Kd.C_alloc ?_ _) | (with_reducible refine Kd.C_drewN ?_ _) | (with_reducible refine Kd.C_drew ?_))); (case side2 => exact (Kd.R_reads' HO_172001.out).2.1); rintro e w40 ⟨rfl, hb⟩; refine ⟨_, rfl, ?_⟩; have n0_ := Aside0.mk (Kd.R_below (by (with_reducible repeat (first | apply Kd.R_alloc | apply Kd.R_drewN | apply Kd.R_drew)); exact HO_172001.out) hb); have n1_ := Aside0.mk (blk_below (g := gb169) (o := .cells #[.string a0_0, .slice A0_1 l0_1.length c0_1] 24 (0, 0)) (by (with_reducible repeat (first | refine blk_drewN ?_ _ | refine blk_drew ?_ | refine blk_alloc ?_ _)); exact BK169.out) hb); have n2_ := Aside0.mk (blk_below (g := gb171) (o := .cells #[.string a0_0, .slice Ao39 x172001_1.length co39] 24 (0, 0)) (by (with_reducible repeat (first | refine blk_drewN ?_ _ | refine blk_drew ?_ | refine blk_alloc ?_ _)); exact BK171.out) hb); have n3_ := Aside0.mk (below_step (by repeat (first | (with_reducible first | exact HB.out | apply below_alloc | apply pw_below_drewN | apply below_drew1 | refine below_set ?_ GE169.out | refine below_set ?_ GE171.out) | exact HB.out)) hb); clear HO_172001; clear BK169; clear BK171; clear HB; have HO_172001 := n0_; have BK169 := n1_; have BK171 := n2_; have HB := n3_; clear n0_ n1_ n2_ n3_; (try clear hb); (try clear hb2); (try clear hk); (try clear hi)))
          go_ret
          exact ⟨by first | rfl | (simp [errW_none, errW_some] <;> rfl) | (simp [*, errW_none, errW_some] <;> rfl), by repeat (first | (with_reducible first | exact HB.out | apply below_alloc | apply pw_below_drewN | apply below_drew1 | refine below_set ?_ GE169.out | refine below_set ?_ GE171.out) | exact HB.out)⟩

end Go.Proofs.Ytlilfbkgkobgmaa.Q
