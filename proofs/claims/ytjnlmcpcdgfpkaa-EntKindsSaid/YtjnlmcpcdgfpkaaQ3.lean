/- Contracts of the Go functions that these laws reach: each call answers what the plain Lean function beside it says. Written by a program of this session (pp.py). -/
import Derived.Test.YtjnlmcpcdgfpkaaQ0
import Derived.Test.YtjnlmcpcdgfpkaaQ2
namespace Go.Proofs.Ytjnlmcpcdgfpkaa.Q
open Go.RowKit Go.Proofs.YtjnlmcpcdgfpkaaW.PrintWords Go.Proofs.YtjnlmcpcdgfpkaaW.PrintLast Go.Proofs.YtjnlmcpcdgfpkaaW.PrintMore
attribute [local go_sem] max2_int min2_int max_two min_two max_three min_three max_four min_four   -- for this text's walks alone
set_option linter.unusedVariables false
set_option linter.unusedSimpArgs false

/-! ### ent_Bytes: function 27 -/
def ent_Bytes.f (k : Nat) (a0_0 : Int) (a0_1 : Int) (a0_2 : Int) (a0_3 : Int) (a0_4 : ByteArray) : Option (ByteArray × Int) := (ent_Check.f k a0_0 a0_1 a0_2 a0_3 a0_4).bind fun t122 => (if t122 = 0 then ((num_Row_int.f k (([a0_0, a0_1, a0_2, a0_3] : List Int))).bind fun t126 => (if t126.size + a0_4.size ≤ 9223372036854775807 then (some (t126 ++ a0_4, 0)) else (none))) else (some ((⟨#[]⟩ : ByteArray), 1)))
theorem ent_Bytes.mono : ∀ a0 a1 a2 a3 a4 k, LeO (ent_Bytes.f k a0 a1 a2 a3 a4) (ent_Bytes.f (k + 1) a0 a1 a2 a3 a4) := by
  intro a0 a1 a2 a3 a4 k
  unfold ent_Bytes.f
  repeat' first
      | (with_reducible exact ent_Check.mono _ _ _ _ _ _)
      | (with_reducible exact num_Row_int.mono _ _)
      | (with_reducible exact LeO.refl _)
      | (with_reducible exact LeO.none _)
      | (with_reducible refine LeO.ite ?_ ?_)
      | (with_reducible refine LeO.bind ?_ (fun _ => ?_))
      | exact ent_Check.mono _ _ _ _ _ _
      | exact num_Row_int.mono _ _
      | exact LeO.none _
      | refine LeO.ite ?_ ?_
      | refine LeO.bind ?_ (fun _ => ?_)
def ent_Bytes.T3 : Bool × List (List Nat × List Nat) := (true, [([], []), ([0], [0]), ([], []), ([2], [2]), ([], []), ([4], [4]), ([], []), ([6], [6]), ([1, 3, 5, 7], [1, 3, 5, 7]), ([8], [8]), ([], []), ([10], [10]), ([9, 11], [9, 11]), ([12, 9, 0, 1, 2, 3, 4, 5, 6, 7, 8, 9, 10, 11, 12], [12]), ([13, 0, 1, 2, 3, 4, 5, 6, 7, 8, 9, 10, 11, 12, 13], [])])
def ent_Bytes.B3 : List Nat := [0, 1, 0, 4, 0, 16, 0, 64, 255, 511, 0, 1024, 4095, 8191, 16383]
theorem ent_Bytes.tab3 : rtab .any (opsOf Try.f27 3) = ent_Bytes.T3 := by kernel_rfl
theorem ent_Bytes.bits3 : waitsOk ent_Bytes.T3.2 ent_Bytes.B3 = true := by kernel_rfl
set_option maxHeartbeats 8000000 in
set_option maxRecDepth 100000 in
theorem ent_Bytes.calls (k : Nat) (a0_0 : Int) (a0_1 : Int) (a0_2 : Int) (a0_3 : Int) (a0_4 : ByteArray) (r1 : ByteArray) (r2 : Int) (w : World) (h : ent_Bytes.f k a0_0 a0_1 a0_2 a0_3 a0_4 = some (r1, r2)) :
    Calls Try.prog 27 #[.agg #[.int .i64 a0_0, .int .i64 a0_1, .int .i64 a0_2, .int .i64 a0_3, .string a0_4]] w fun e w' => e = .returned (.tuple #[.string r1, .int .i64 r2]) ∧ Below w.heap.size w w' := by
  have hu26 := Try.underlying26
  have HB := Aside0.mk (Below.refl w.heap.size w)
  have H : ((ent_Check.f k a0_0 a0_1 a0_2 a0_3 a0_4).bind fun t122 => (if t122 = 0 then ((num_Row_int.f k (([a0_0, a0_1, a0_2, a0_3] : List Int))).bind fun t126 => (if t126.size + a0_4.size ≤ 9223372036854775807 then (some (t126 ++ a0_4, 0)) else (none))) else (some ((⟨#[]⟩ : ByteArray), 1)))) = some (r1, r2) := h
  clear h
  replace H := Option.bind_eq_some_iff.mp H
  obtain ⟨t122, A20, H⟩ := H
  replace H : (if t122 = 0 then ((num_Row_int.f k (([a0_0, a0_1, a0_2, a0_3] : List Int))).bind fun t126 => (if t126.size + a0_4.size ≤ 9223372036854775807 then (some (t126 ++ a0_4, 0)) else (none))) else (some ((⟨#[]⟩ : ByteArray), 1))) = some (r1, r2) := H
  have A2 := Aside0.mk A20
  clear A20
  by_cases c3 : t122 = 0
  · rw [if_pos c3] at H
    have c3b0 : (t122 == 0) = true := beq_iff_eq.mpr c3
    have c3b1 : (t122 != 0) = false := bne_eq_false_iff_eq.mpr c3
    clear c3
    obtain ⟨y123, hy123⟩ : ∃ y_ : List Int, y_ = (([a0_0, a0_1, a0_2, a0_3] : List Int)) := ⟨_, rfl⟩
    replace H : ((num_Row_int.f k y123).bind fun t126 => (if t126.size + a0_4.size ≤ 9223372036854775807 then (some (t126 ++ a0_4, 0)) else (none))) = some (r1, r2) := by first | (rw [hy123]; with_reducible exact H) | (have H2_ := (Option.bind_some _ _).symm.trans H; rw [hy123]; with_reducible exact H2_) | (have H2_ := (Option.bind_some _ _).symm.trans H; with_reducible exact H2_) | with_reducible exact H | (rw [hy123]; exact H) | exact H
    have Ny123 := Aside0.mk hy123
    clear hy123
    replace H := Option.bind_eq_some_iff.mp H
    obtain ⟨t126, A40, H⟩ := H
    replace H : (if t126.size + a0_4.size ≤ 9223372036854775807 then (some (t126 ++ a0_4, 0)) else (none)) = some (r1, r2) := H
    have A4 := Aside0.mk A40
    clear A40
    by_cases c5 : t126.size + a0_4.size ≤ 9223372036854775807
    · rw [if_pos c5] at H
      have c5b0 := eq_true c5
      have c5b1 : decide (t126.size + a0_4.size ≤ 9223372036854775807) = true := decide_eq_true c5
      try have c5b2 : (9223372036854775807 < t126.size + a0_4.size) = False := eq_false (Nat.not_lt.2 c5)
      simp only [Option.some.injEq, Prod.mk.injEq] at H
      obtain ⟨rfl, rfl⟩ := H
      go_enter Try.func27, Try.ntmps27
      try go_wp2_with (first | ((with_reducible refine gate_dst (N := 1) rfl ?_); refine box_event ?hg (N := 1) ?hd (cs := #[.int .i64 a0_0, .int .i64 a0_1, .int .i64 a0_2, .int .i64 a0_3, .string a0_4]) (t := 26) ?hr ?_; (case hd => rfl); (case hg => rfl); (case hr => first | (go_simp; done) | (go_simp; rfl)); intro gb121 hg w6 hbox hb; have n0_ := Aside0.mk (below_step (by repeat (first | (with_reducible first | exact HB.out | apply below_alloc | apply pw_below_drewN | apply below_drew1) | exact HB.out)) hb); have n1_ := Aside0.mk (hbox); have n2_ := Aside0.mk ((by rw [hg]; exact (below_size (by repeat (first | (with_reducible first | exact HB.out | apply below_alloc | apply pw_below_drewN | apply below_drew1) | exact HB.out))) : w.heap.size ≤ gb121)); have n3_ := Aside0.mk ((by rw [hg]; exact (below_size (by repeat (first | (with_reducible first | exact HB.out | apply below_alloc | apply pw_below_drewN | apply below_drew1) | exact HB.out))) : w.heap.size ≤ gb121)); clear HB; have HB := n0_; have BK121 := n1_; have GW121 := n2_; have GE121 := n3_; clear n0_ n1_ n2_ n3_; clear hb hbox hg; obtain ⟨hcz7_0, hcz7_1, hcz7_2, hcz7_3, hcz7_4⟩ := cells5 BK121.out; have hfz7_0 := fun i_ => blk_frozen BK121.out i_) | ((with_reducible refine gate_callee (f := 13) rfl ?_); refine goesL_ (some 5) rfl rfl Try.func13 (by kernel_rfl) rfl #[.agg #[.int .i64 a0_0, .int .i64 a0_1, .int .i64 a0_2, .int .i64 a0_3, .string a0_4]] rfl (by (try simp only [List.map_toArray, List.map_cons, List.map_nil]); first | done | rfl | (simp only [List.length_drop, List.length_take]; rfl)) ?_; (with_reducible refine (ent_Check.calls k a0_0 a0_1 a0_2 a0_3 a0_4 t122 _ A2.out).mono ?_); rintro e w8 ⟨rfl, hb⟩; refine ⟨_, rfl, ?_⟩; have n0_ := Aside0.mk (blk_below (g := gb121) (o := .cells #[.int .i64 a0_0, .int .i64 a0_1, .int .i64 a0_2, .int .i64 a0_3, .string a0_4] 26 (0, 0)) (by (with_reducible repeat (first | refine blk_drewN ?_ _ | refine blk_drew ?_ | refine blk_alloc ?_ _)); exact BK121.out) hb); have n1_ := Aside0.mk (below_step (by repeat (first | (with_reducible first | exact HB.out | apply below_alloc | apply pw_below_drewN | apply below_drew1 | refine below_set ?_ GE121.out) | exact HB.out)) hb); clear BK121; clear HB; have BK121 := n0_; have HB := n1_; clear n0_ n1_; (try clear hb); (try clear hb2); (try clear hk); (try clear hi)))
      have n0_ := Aside0.mk (blk_drew BK121.out)
      have n1_ := Aside0.mk (below_drew1 HB.out)
      clear BK121
      clear HB
      have BK121 := n0_
      have HB := n1_
      clear n0_ n1_
      refine start_ (n := 15) (S := fun w' => w'.cell? ⟨gb121, 0, none⟩ = some (.int .i64 a0_0) ∧ w'.cell? ⟨gb121, 1, none⟩ = some (.int .i64 a0_1) ∧ w'.cell? ⟨gb121, 2, none⟩ = some (.int .i64 a0_2) ∧ w'.cell? ⟨gb121, 3, none⟩ = some (.int .i64 a0_3) ∧ w'.cell? ⟨gb121, 4, none⟩ = some (.string a0_4)) (ds := []) #[false, false, false, false, false, false, false, false, false, false, false, false, false, false, false] (by kernel_rfl) rfl rfl ⟨(blk_cell BK121.out 0).trans rfl, (blk_cell BK121.out 1).trans rfl, (blk_cell BK121.out 2).trans rfl, (blk_cell BK121.out 3).trans rfl, (blk_cell BK121.out 4).trans rfl⟩ (fun hHeld => ?_); refine with_tabW ent_Bytes.tab3 ent_Bytes.bits3 (fun HT_ HW_ => ?_)
      generalize w8.drew = w9 at BK121 HB hHeld ⊢
      refine pure_ (i := 0) (N := some 7) (v := ?_) (a' := ?_) #[true, false, false, false, false, false, false, false, false, false, false, false, false, false, false] rfl rfl (any_of HT_.out (by kernel_rfl)) (fun _ _ _ h => h) (Or.inl ⟨by rfl, ?_⟩) ?_ ?_
      rotate_left
      · intro w'
        go_simp
        with_reducible rfl
      rotate_left
      · simp only [Act.put, List.setIfInBounds_toArray, List.set_cons_zero, List.set_cons_succ, i64_w, i32_w]
        rfl
      refine pure_ (i := 2) (N := some 9) (v := ?_) (a' := ?_) #[true, false, true, false, false, false, false, false, false, false, false, false, false, false, false] rfl rfl (any_of HT_.out (by kernel_rfl)) (fun _ _ _ h => h) (Or.inl ⟨by rfl, ?_⟩) ?_ ?_
      rotate_left
      · intro w'
        go_simp
        with_reducible rfl
      rotate_left
      · simp only [Act.put, List.setIfInBounds_toArray, List.set_cons_zero, List.set_cons_succ, i64_w, i32_w]
        rfl
      refine pure_ (i := 4) (N := some 11) (v := ?_) (a' := ?_) #[true, false, true, false, true, false, false, false, false, false, false, false, false, false, false] rfl rfl (any_of HT_.out (by kernel_rfl)) (fun _ _ _ h => h) (Or.inl ⟨by rfl, ?_⟩) ?_ ?_
      rotate_left
      · intro w'
        go_simp
        with_reducible rfl
      rotate_left
      · simp only [Act.put, List.setIfInBounds_toArray, List.set_cons_zero, List.set_cons_succ, i64_w, i32_w]
        rfl
      refine pure_ (i := 6) (N := some 13) (v := ?_) (a' := ?_) #[true, false, true, false, true, false, true, false, false, false, false, false, false, false, false] rfl rfl (any_of HT_.out (by kernel_rfl)) (fun _ _ _ h => h) (Or.inl ⟨by rfl, ?_⟩) ?_ ?_
      rotate_left
      · intro w'
        go_simp
        with_reducible rfl
      rotate_left
      · simp only [Act.put, List.setIfInBounds_toArray, List.set_cons_zero, List.set_cons_succ, i64_w, i32_w]
        rfl
      refine pure_ (i := 10) (N := some 17) (v := ?_) (a' := ?_) #[true, false, true, false, true, false, true, false, false, false, true, false, false, false, false] rfl rfl (any_of HT_.out (by kernel_rfl)) (fun _ _ _ h => h) (Or.inl ⟨by rfl, ?_⟩) ?_ ?_
      rotate_left
      · intro w'
        go_simp
        with_reducible rfl
      rotate_left
      · simp only [Act.put, List.setIfInBounds_toArray, List.set_cons_zero, List.set_cons_succ, i64_w, i32_w]
        rfl
      refine take_ (i := 1) (N := some 8) (v := ?_) (a' := ?_) #[true, true, true, false, true, false, true, false, false, false, true, false, false, false, false] rfl rfl (take_ofW HT_.out HW_.out (by kernel_rfl)) (fun _ _ _ h => h) (Or.inl ⟨by rfl, ?_⟩) hHeld ?_ ?_
      rotate_left
      · rintro w' ⟨s0, s1, s2, s3, s4⟩
        go_simp
        with_reducible rfl
      rotate_left
      · simp only [Act.put, List.setIfInBounds_toArray, List.set_cons_zero, List.set_cons_succ, i64_w, i32_w]
        rfl
      refine take_ (i := 3) (N := some 10) (v := ?_) (a' := ?_) #[true, true, true, true, true, false, true, false, false, false, true, false, false, false, false] rfl rfl (take_ofW HT_.out HW_.out (by kernel_rfl)) (fun _ _ _ h => h) (Or.inl ⟨by rfl, ?_⟩) hHeld ?_ ?_
      rotate_left
      · rintro w' ⟨s0, s1, s2, s3, s4⟩
        go_simp
        with_reducible rfl
      rotate_left
      · simp only [Act.put, List.setIfInBounds_toArray, List.set_cons_zero, List.set_cons_succ, i64_w, i32_w]
        rfl
      refine take_ (i := 5) (N := some 12) (v := ?_) (a' := ?_) #[true, true, true, true, true, true, true, false, false, false, true, false, false, false, false] rfl rfl (take_ofW HT_.out HW_.out (by kernel_rfl)) (fun _ _ _ h => h) (Or.inl ⟨by rfl, ?_⟩) hHeld ?_ ?_
      rotate_left
      · rintro w' ⟨s0, s1, s2, s3, s4⟩
        go_simp
        with_reducible rfl
      rotate_left
      · simp only [Act.put, List.setIfInBounds_toArray, List.set_cons_zero, List.set_cons_succ, i64_w, i32_w]
        rfl
      refine take_ (i := 7) (N := some 14) (v := ?_) (a' := ?_) #[true, true, true, true, true, true, true, true, false, false, true, false, false, false, false] rfl rfl (take_ofW HT_.out HW_.out (by kernel_rfl)) (fun _ _ _ h => h) (Or.inl ⟨by rfl, ?_⟩) hHeld ?_ ?_
      rotate_left
      · rintro w' ⟨s0, s1, s2, s3, s4⟩
        go_simp
        with_reducible rfl
      rotate_left
      · simp only [Act.put, List.setIfInBounds_toArray, List.set_cons_zero, List.set_cons_succ, i64_w, i32_w]
        rfl
      refine take_ (i := 11) (N := some 18) (v := ?_) (a' := ?_) #[true, true, true, true, true, true, true, true, false, false, true, true, false, false, false] rfl rfl (take_ofW HT_.out HW_.out (by kernel_rfl)) (fun _ _ _ h => h) (Or.inl ⟨by rfl, ?_⟩) hHeld ?_ ?_
      rotate_left
      · rintro w' ⟨s0, s1, s2, s3, s4⟩
        go_simp
        with_reducible rfl
      rotate_left
      · simp only [Act.put, List.setIfInBounds_toArray, List.set_cons_zero, List.set_cons_succ, i64_w, i32_w]
        rfl
      refine one_ (i := 8) (N := some 15) #[true, true, true, true, true, true, true, true, true, false, true, true, false, false, false] rfl rfl (one_of HT_.out (by kernel_rfl)) (by decide) (fun K hK => ?_)
      refine Kd.R_lit_step (Kd.int .i64) _ 3 ?hg (N := 15) ?hd (xs := ([a0_0, a0_1, a0_2, a0_3] : List Int)) (inner := [.int .i64 a0_0, .int .i64 a0_1, .int .i64 a0_2, .int .i64 a0_3]) (ok := fun _ => True) (okp := fun _ => True) ?hr ?hp (fun _ hk => hk) trivial (Below.refl _ _) (Nat.le_refl _) (by simp) ?_; (case hd => rfl); (case hg => rfl); (case hr => first | (go_simp; done) | (go_simp; rfl)); (case hp => exact (Reps.one (show Kd.M (Kd.int .i64) _ _ _ a0_0 [.int .i64 a0_0] from rfl) (Reps.one (show Kd.M (Kd.int .i64) _ _ _ a0_1 [.int .i64 a0_1] from rfl) (Reps.one (show Kd.M (Kd.int .i64) _ _ _ a0_2 [.int .i64 a0_2] from rfl) (Reps.one (show Kd.M (Kd.int .i64) _ _ _ a0_3 [.int .i64 a0_3] from rfl) (Reps.none _ _))))))
      intro v124 w10 ho11 hb hg_ hnew_
      clear hg_ hnew_
      (first | rw [← Ny123.out] at ho11 | (simp only [Int.reduceToNat] at ho11; rw [← Ny123.out] at ho11))
      have n0_ := Aside0.mk (Kd.R_lower ho11 (below_size (by repeat (first | (with_reducible first | exact HB.out | apply below_alloc | apply pw_below_drewN | apply below_drew1 | refine below_set ?_ GE121.out) | exact HB.out))))
      have n1_ := Aside0.mk (blk_below (g := gb121) (o := .cells #[.int .i64 a0_0, .int .i64 a0_1, .int .i64 a0_2, .int .i64 a0_3, .string a0_4] 26 (0, 0)) (by (with_reducible repeat (first | refine blk_drewN ?_ _ | refine blk_drew ?_ | refine blk_alloc ?_ _)); exact BK121.out) hb)
      have n2_ := Aside0.mk (below_step (by repeat (first | (with_reducible first | exact HB.out | apply below_alloc | apply pw_below_drewN | apply below_drew1 | refine below_set ?_ GE121.out) | exact HB.out)) hb)
      clear BK121
      clear HB
      have HO125 := n0_
      have BK121 := n1_
      have HB := n2_
      clear n0_ n1_ n2_
      clear hb ho11
      obtain ⟨Ao12, co12, eo12⟩ := Kd.R_slice HO125.out
      (first | subst eo12 | (injection eo12 with f1_ f2_ f3_; have f4_ := f1_.symm; have f5_ := f3_.symm; clear f1_ f2_ f3_; subst f4_; subst f5_))
      refine hK.out _ _ ⟨(blk_cell BK121.out 0).trans rfl, (blk_cell BK121.out 1).trans rfl, (blk_cell BK121.out 2).trans rfl, (blk_cell BK121.out 3).trans rfl, (blk_cell BK121.out 4).trans rfl⟩ (fun hHeld => ?_)
      clear hK K
      refine norm_ (a' := ?_) ?_ ?_
      rotate_left
      · show Act.put _ (some 15) _ = _
        simp only [Act.put, List.setIfInBounds_toArray, List.set_cons_zero, List.set_cons_succ, i64_w, i32_w]
        rfl
      refine one_ (i := 9) (N := some 16) #[true, true, true, true, true, true, true, true, true, true, true, true, false, false, false] rfl rfl (one_of HT_.out (by kernel_rfl)) (by decide) (fun K hK => ?_)
      refine goes_ Try.func44 (by kernel_rfl) rfl #[.slice Ao12 y123.length co12] (by rfl) rfl rfl (by (try simp only [List.map_toArray, List.map_cons, List.map_nil]); first | done | rfl | (simp only [List.length_drop, List.length_take]; rfl)) ?_
      with_reducible refine (num_Row_int.calls k _ _ y123 t126 _ ?side1 ?side2 A4.out).mono ?_
      (case side1 => repeat (first | exact (Kd.R_reads' HO125.out).2.2 | (with_reducible refine Kd.C_alloc ?_ _) | (with_reducible refine Kd.C_drewN ?_ _) | (with_reducible refine Kd.C_drew ?_)))
      (case side2 => exact (Kd.R_reads' HO125.out).2.1)
      rintro e w13 ⟨rfl, hb⟩
      refine ⟨_, rfl, ?_⟩
      have n0_ := Aside0.mk (Kd.R_below (by (with_reducible repeat (first | apply Kd.R_alloc | apply Kd.R_drewN | apply Kd.R_drew)); exact HO125.out) hb)
      have n1_ := Aside0.mk (blk_below (g := gb121) (o := .cells #[.int .i64 a0_0, .int .i64 a0_1, .int .i64 a0_2, .int .i64 a0_3, .string a0_4] 26 (0, 0)) (by (with_reducible repeat (first | refine blk_drewN ?_ _ | refine blk_drew ?_ | refine blk_alloc ?_ _)); exact BK121.out) hb)
      have n2_ := Aside0.mk (below_step (by repeat (first | (with_reducible first | exact HB.out | apply below_alloc | apply pw_below_drewN | apply below_drew1 | refine below_set ?_ GE121.out) | exact HB.out)) hb)
      clear HO125
      clear BK121
      clear HB
      have HO125 := n0_
      have BK121 := n1_
      have HB := n2_
      clear n0_ n1_ n2_
      (try clear hb)
      (try clear hb2)
      (try clear hk)
      (try clear hi)
      refine hK.out _ _ ⟨(blk_cell BK121.out 0).trans rfl, (blk_cell BK121.out 1).trans rfl, (blk_cell BK121.out 2).trans rfl, (blk_cell BK121.out 3).trans rfl, (blk_cell BK121.out 4).trans rfl⟩ (fun hHeld => ?_)
      clear hK K
      refine norm_ (a' := ?_) ?_ ?_
      rotate_left
      · show Act.put _ (some 16) _ = _
        simp only [Act.put, List.setIfInBounds_toArray, List.set_cons_zero, List.set_cons_succ, i64_w, i32_w]
        rfl
      refine pure_ (i := 12) (N := some 19) (v := ?_) (a' := ?_) #[true, true, true, true, true, true, true, true, true, true, true, true, true, false, false] rfl rfl (any_of HT_.out (by kernel_rfl)) (fun _ _ _ h => h) (Or.inl ⟨by rfl, ?_⟩) ?_ ?_
      rotate_left
      · intro w'
        go_simp
        with_reducible rfl
      rotate_left
      · simp only [Act.put, List.setIfInBounds_toArray, List.set_cons_zero, List.set_cons_succ, i64_w, i32_w]
        rfl
      refine pure_ (i := 13) (N := some 2) (v := ?_) (a' := ?_) #[true, true, true, true, true, true, true, true, true, true, true, true, true, true, false] rfl rfl (any_of HT_.out (by kernel_rfl)) (fun _ _ _ h => h) (Or.inl ⟨by rfl, ?_⟩) ?_ ?_
      rotate_left
      · intro w'
        go_simp
        with_reducible rfl
      rotate_left
      · simp only [Act.put, List.setIfInBounds_toArray, List.set_cons_zero, List.set_cons_succ, i64_w, i32_w]
        rfl
      refine pure_ (i := 14) (N := some 3) (v := ?_) (a' := ?_) #[true, true, true, true, true, true, true, true, true, true, true, true, true, true, true] rfl rfl (any_of HT_.out (by kernel_rfl)) (fun _ _ _ h => h) (Or.inl ⟨by rfl, ?_⟩) ?_ ?_
      rotate_left
      · intro w'
        go_simp
        with_reducible rfl
      rotate_left
      · simp only [Act.put, List.setIfInBounds_toArray, List.set_cons_zero, List.set_cons_succ, i64_w, i32_w]
        rfl
      refine done_ (done_of HT_.out (by kernel_rfl)) ?_
      try go_wp2
      go_ret2
      exact ⟨by first | rfl | (simp [errW_none, errW_some] <;> rfl) | (simp [*, errW_none, errW_some] <;> rfl), by repeat (first | (with_reducible first | exact HB.out | apply below_alloc | apply pw_below_drewN | apply below_drew1 | refine below_set ?_ GE121.out) | exact HB.out)⟩
    · rw [if_neg c5] at H
      exact absurd H (by simp)
  · rw [if_neg c3] at H
    have c3b0 : (t122 == 0) = false := beq_eq_false_iff_ne.mpr c3
    have c3b1 : (t122 != 0) = true := bne_iff_ne.mpr c3
    simp only [Option.some.injEq, Prod.mk.injEq] at H
    obtain ⟨rfl, rfl⟩ := H
    go_enter Try.func27, Try.ntmps27
    go_wp2_with (first | ((with_reducible refine gate_dst (N := 1) rfl ?_); refine box_event ?hg (N := 1) ?hd (cs := #[.int .i64 a0_0, .int .i64 a0_1, .int .i64 a0_2, .int .i64 a0_3, .string a0_4]) (t := 26) ?hr ?_; (case hd => rfl); (case hg => rfl); (case hr => first | (go_simp; done) | (go_simp; rfl)); intro gb121 hg w14 hbox hb; have n0_ := Aside0.mk (below_step (by repeat (first | (with_reducible first | exact HB.out | apply below_alloc | apply pw_below_drewN | apply below_drew1) | exact HB.out)) hb); have n1_ := Aside0.mk (hbox); have n2_ := Aside0.mk ((by rw [hg]; exact (below_size (by repeat (first | (with_reducible first | exact HB.out | apply below_alloc | apply pw_below_drewN | apply below_drew1) | exact HB.out))) : w.heap.size ≤ gb121)); have n3_ := Aside0.mk ((by rw [hg]; exact (below_size (by repeat (first | (with_reducible first | exact HB.out | apply below_alloc | apply pw_below_drewN | apply below_drew1) | exact HB.out))) : w.heap.size ≤ gb121)); clear HB; have HB := n0_; have BK121 := n1_; have GW121 := n2_; have GE121 := n3_; clear n0_ n1_ n2_ n3_; clear hb hbox hg; obtain ⟨hcz15_0, hcz15_1, hcz15_2, hcz15_3, hcz15_4⟩ := cells5 BK121.out; have hfz15_0 := fun i_ => blk_frozen BK121.out i_) | ((with_reducible refine gate_callee (f := 13) rfl ?_); refine goesL_ (some 5) rfl rfl Try.func13 (by kernel_rfl) rfl #[.agg #[.int .i64 a0_0, .int .i64 a0_1, .int .i64 a0_2, .int .i64 a0_3, .string a0_4]] rfl (by (try simp only [List.map_toArray, List.map_cons, List.map_nil]); first | done | rfl | (simp only [List.length_drop, List.length_take]; rfl)) ?_; (with_reducible refine (ent_Check.calls k a0_0 a0_1 a0_2 a0_3 a0_4 t122 _ A2.out).mono ?_); rintro e w16 ⟨rfl, hb⟩; refine ⟨_, rfl, ?_⟩; have n0_ := Aside0.mk (blk_below (g := gb121) (o := .cells #[.int .i64 a0_0, .int .i64 a0_1, .int .i64 a0_2, .int .i64 a0_3, .string a0_4] 26 (0, 0)) (by (with_reducible repeat (first | refine blk_drewN ?_ _ | refine blk_drew ?_ | refine blk_alloc ?_ _)); exact BK121.out) hb); have n1_ := Aside0.mk (below_step (by repeat (first | (with_reducible first | exact HB.out | apply below_alloc | apply pw_below_drewN | apply below_drew1 | refine below_set ?_ GE121.out) | exact HB.out)) hb); clear BK121; clear HB; have BK121 := n0_; have HB := n1_; clear n0_ n1_; (try clear hb); (try clear hb2); (try clear hk); (try clear hi)))
    go_ret2
    exact ⟨by first | rfl | (simp [errW_none, errW_some] <;> rfl) | (simp [*, errW_none, errW_some] <;> rfl), by repeat (first | (with_reducible first | exact HB.out | apply below_alloc | apply pw_below_drewN | apply below_drew1 | refine below_set ?_ GE121.out) | exact HB.out)⟩

/-! ### thresherlaw16_wakes: function 14 -/
def thresherlaw16_wakes.f (k : Nat)  : Option (Bool) := (ent_Bytes.f k 4 1 0 0 (⟨#[]⟩ : ByteArray)).bind fun bt127 => ((thresherlaw16_num.f bt127.2).bind fun t129 => (if t129 = 0 then (some ((bt127.1.size : Int) == 4)) else (some false)))
theorem thresherlaw16_wakes.mono : ∀ k, LeO (thresherlaw16_wakes.f k ) (thresherlaw16_wakes.f (k + 1) ) := by
  intro  k
  unfold thresherlaw16_wakes.f
  repeat' first
      | (with_reducible exact ent_Bytes.mono _ _ _ _ _ _)
      | (with_reducible exact LeO.refl _)
      | (with_reducible exact LeO.none _)
      | (with_reducible refine LeO.ite ?_ ?_)
      | (with_reducible refine LeO.bind ?_ (fun _ => ?_))
      | exact ent_Bytes.mono _ _ _ _ _ _
      | exact LeO.none _
      | refine LeO.ite ?_ ?_
      | refine LeO.bind ?_ (fun _ => ?_)
set_option maxHeartbeats 8000000 in
set_option maxRecDepth 100000 in
theorem thresherlaw16_wakes.calls (k : Nat)  (r : Bool) (w : World) (h : thresherlaw16_wakes.f k  = some r) :
    Calls Try.prog 14 #[] w fun e w' => e = .returned (.bool r) ∧ Below w.heap.size w w' := by
  have hu26 := Try.underlying26
  have HB := Aside0.mk (Below.refl w.heap.size w)
  have H : ((ent_Bytes.f k 4 1 0 0 (⟨#[]⟩ : ByteArray)).bind fun bt127 => ((thresherlaw16_num.f bt127.2).bind fun t129 => (if t129 = 0 then (some ((bt127.1.size : Int) == 4)) else (some false)))) = some r := h
  clear h
  replace H := Option.bind_eq_some_iff.mp H
  obtain ⟨⟨t127, t128⟩, A10, H⟩ := H
  replace H : ((thresherlaw16_num.f t128).bind fun t129 => (if t129 = 0 then (some ((t127.size : Int) == 4)) else (some false))) = some r := H
  have A1 := Aside0.mk A10
  clear A10
  replace H := Option.bind_eq_some_iff.mp H
  obtain ⟨t129, A20, H⟩ := H
  replace H : (if t129 = 0 then (some ((t127.size : Int) == 4)) else (some false)) = some r := H
  have A2 := Aside0.mk A20
  clear A20
  by_cases c3 : t129 = 0
  · rw [if_pos c3] at H
    have c3b0 : (t129 == 0) = true := beq_iff_eq.mpr c3
    have c3b1 : (t129 != 0) = false := bne_eq_false_iff_eq.mpr c3
    clear c3
    obtain rfl := Option.some.inj H
    go_enter Try.func14, Try.ntmps14
    go_wp2_with (first | ((with_reducible refine gate_callee (f := 27) rfl ?_); refine goesL_ (some 5) rfl rfl Try.func27 (by kernel_rfl) rfl #[.agg #[.int .i64 4, .int .i64 1, .int .i64 0, .int .i64 0, .string (⟨#[]⟩ : ByteArray)]] rfl (by (try simp only [List.map_toArray, List.map_cons, List.map_nil]); first | done | rfl | (simp only [List.length_drop, List.length_take]; rfl)) ?_; (with_reducible refine (ent_Bytes.calls k 4 1 0 0 (⟨#[]⟩ : ByteArray) t127 t128 _ A1.out).mono ?_); rintro e w4 ⟨rfl, hb⟩; refine ⟨_, rfl, ?_⟩; have n0_ := Aside0.mk (below_step (by repeat (first | (with_reducible first | exact HB.out | apply below_alloc | apply pw_below_drewN | apply below_drew1) | exact HB.out)) hb); clear HB; have HB := n0_; clear n0_; (try clear hb); (try clear hb2); (try clear hk); (try clear hi)) | ((with_reducible refine gate_callee (f := 12) rfl ?_); refine goesL_ (some 9) rfl rfl Try.func12 (by kernel_rfl) rfl #[.int .i64 t128] rfl (by (try simp only [List.map_toArray, List.map_cons, List.map_nil]); first | done | rfl | (simp only [List.length_drop, List.length_take]; rfl)) ?_; (with_reducible refine (thresherlaw16_num.calls t128 t129 _ A2.out).mono ?_); rintro e w' ⟨rfl, ⟨nd, rfl⟩⟩; refine ⟨_, rfl, ?_⟩))
    go_ret
    exact ⟨by first | rfl | (simp [errW_none, errW_some] <;> rfl) | (simp [*, errW_none, errW_some] <;> rfl), by repeat (first | (with_reducible first | exact HB.out | apply below_alloc | apply pw_below_drewN | apply below_drew1) | exact HB.out)⟩
  · rw [if_neg c3] at H
    have c3b0 : (t129 == 0) = false := beq_eq_false_iff_ne.mpr c3
    have c3b1 : (t129 != 0) = true := bne_iff_ne.mpr c3
    obtain rfl := Option.some.inj H
    go_enter Try.func14, Try.ntmps14
    go_wp2_with (first | ((with_reducible refine gate_callee (f := 27) rfl ?_); refine goesL_ (some 5) rfl rfl Try.func27 (by kernel_rfl) rfl #[.agg #[.int .i64 4, .int .i64 1, .int .i64 0, .int .i64 0, .string (⟨#[]⟩ : ByteArray)]] rfl (by (try simp only [List.map_toArray, List.map_cons, List.map_nil]); first | done | rfl | (simp only [List.length_drop, List.length_take]; rfl)) ?_; (with_reducible refine (ent_Bytes.calls k 4 1 0 0 (⟨#[]⟩ : ByteArray) t127 t128 _ A1.out).mono ?_); rintro e w5 ⟨rfl, hb⟩; refine ⟨_, rfl, ?_⟩; have n0_ := Aside0.mk (below_step (by repeat (first | (with_reducible first | exact HB.out | apply below_alloc | apply pw_below_drewN | apply below_drew1) | exact HB.out)) hb); clear HB; have HB := n0_; clear n0_; (try clear hb); (try clear hb2); (try clear hk); (try clear hi)) | ((with_reducible refine gate_callee (f := 12) rfl ?_); refine goesL_ (some 9) rfl rfl Try.func12 (by kernel_rfl) rfl #[.int .i64 t128] rfl (by (try simp only [List.map_toArray, List.map_cons, List.map_nil]); first | done | rfl | (simp only [List.length_drop, List.length_take]; rfl)) ?_; (with_reducible refine (thresherlaw16_num.calls t128 t129 _ A2.out).mono ?_); rintro e w' ⟨rfl, ⟨nd, rfl⟩⟩; refine ⟨_, rfl, ?_⟩))
    go_ret
    exact ⟨by first | rfl | (simp [errW_none, errW_some] <;> rfl) | (simp [*, errW_none, errW_some] <;> rfl), by repeat (first | (with_reducible first | exact HB.out | apply below_alloc | apply pw_below_drewN | apply below_drew1) | exact HB.out)⟩

/-! ### thresherlaw16_EntKinds: function 3 -/
namespace EntKindsHand
def good : List S26 := [⟨1, 1, 0, 0, (⟨#[120]⟩ : ByteArray)⟩, ⟨2, 1, 1, 0, (⟨#[120]⟩ : ByteArray)⟩, ⟨3, 1, 0, 1, (⟨#[120]⟩ : ByteArray)⟩, ⟨3, 1, 0, 9, (⟨#[]⟩ : ByteArray)⟩, ⟨4, 1, 0, 0, (⟨#[]⟩ : ByteArray)⟩, ⟨5, 1, 0, 9, (⟨#[]⟩ : ByteArray)⟩]
def nth (i : Int) : S26 := rd_T26 good i
/-- What the checks tell of the i-th entry, and of what is made of it. -/
theorem checks (i : Int) (h0 : 0 ≤ i) (h1 : i < 6) : ent_Check.f 5 (nth i).f0 (nth i).f1 (nth i).f2 (nth i).f3 (nth i).f4 = some 0 ∧ ent_Check.f 5 (nth i).f0 0 (nth i).f2 (nth i).f3 (nth i).f4 = some 1 ∧ ent_Check.f 5 (nth i).f0 (nth i).f1 (1 - (nth i).f2) (nth i).f3 (nth i).f4 = some 1 ∧ ent_Check.f 5 ((nth i).f0 + 10) (nth i).f1 (nth i).f2 (nth i).f3 (nth i).f4 = some 1 ∧ ent_Check.f 5 (nth i).f0 (nth i).f1 (nth i).f2 65 (nth i).f4 = some 1 ∧ ent_Check.f 5 (nth i).f0 (nth i).f1 (nth i).f2 (nth i).f3 ⟨#[121]⟩ = some (if i < 3 then 0 else 1) ∧ (0 ≤ (nth i).f2 ∧ (nth i).f2 ≤ 1) ∧ (0 ≤ (nth i).f0 ∧ (nth i).f0 ≤ 5) := by
  obtain rfl | rfl | rfl | rfl | rfl | rfl : i = 0 ∨ i = 1 ∨ i = 2 ∨ i = 3 ∨ i = 4 ∨ i = 5 := by omega
  all_goals exact ⟨by kernel_rfl, by kernel_rfl, by kernel_rfl, by kernel_rfl, by kernel_rfl, by kernel_rfl, ⟨by decide, by decide⟩, ⟨by decide, by decide⟩⟩
theorem cellsE {W : World} {base : Nat} {ok : Nat → Prop} {ad : Addr} {co : Nat} {y : List S26} (h : Kd.R k26 26 W base ok (.slice (some ad) 6 co) y) {i : Int} (h0 : 0 ≤ i) (h1 : i < 6) {e : S26} (he : rd_T26 y i = e) :
    W.cell? (ad.add (i.toNat * 5)) = some (.int .i64 e.f0) ∧ W.cell? ⟨(ad.add (i.toNat * 5)).block, (ad.add (i.toNat * 5)).off + 1, none⟩ = some (.int .i64 e.f1) ∧ W.cell? ⟨(ad.add (i.toNat * 5)).block, (ad.add (i.toNat * 5)).off + 2, none⟩ = some (.int .i64 e.f2) ∧ W.cell? ⟨(ad.add (i.toNat * 5)).block, (ad.add (i.toNat * 5)).off + 3, none⟩ = some (.int .i64 e.f3) ∧ W.cell? ⟨(ad.add (i.toNat * 5)).block, (ad.add (i.toNat * 5)).off + 4, none⟩ = some (.string e.f4) := by
  obtain ⟨r1, r2, r3⟩ := Kd.R_reads' h
  obtain ⟨ad2, e2, k0, k1, k2, k3, k4⟩ := at_T26 r3 i h0 (by omega)
  injection e2 with e2
  subst e2 he
  exact ⟨k0, k1, k2, k3, k4⟩
theorem keep1 {W W1 : World} {p : Addr} {v : Value} (hx : W.cell? p = some v) (hb : Below W.heap.size W W1) : W1.cell? p = some v := (hb.cell (World.block_lt_of_cell? W _ hx)).trans hx
theorem someAd {W : World} {base : Nat} {ok : Nat → Prop} {A : Option Addr} {co : Nat} {y : List S26} (h : Kd.R k26 26 W base ok (.slice A 6 co) y) : ∃ ad, A = some ad := by
  obtain ⟨r1, r2, r3⟩ := Kd.R_reads' h
  obtain ⟨ad2, e2, _⟩ := at_T26 r3 0 (by omega) (by omega)
  exact ⟨ad2, e2⟩
theorem four (W : World) (O : Obj) : ((((W.alloc O).alloc O).alloc O).alloc O).drew.heap[W.heap.size]? = some O ∧ ((((W.alloc O).alloc O).alloc O).alloc O).drew.heap[W.heap.size + 1]? = some O ∧ ((((W.alloc O).alloc O).alloc O).alloc O).drew.heap[W.heap.size + 1 + 1]? = some O ∧ ((((W.alloc O).alloc O).alloc O).alloc O).drew.heap[W.heap.size + 1 + 1 + 1]? = some O := by
  have s1 : (W.alloc O).heap.size = W.heap.size + 1 := by simp
  have s2 : ((W.alloc O).alloc O).heap.size = W.heap.size + 1 + 1 := by simp
  have s3 : (((W.alloc O).alloc O).alloc O).heap.size = W.heap.size + 1 + 1 + 1 := by simp
  have f0 : (W.alloc O).heap[W.heap.size]? = some O := by simpa using heap_alloc_new W O
  have f1 : ((W.alloc O).alloc O).heap[W.heap.size + 1]? = some O := by rw [← s1]; simpa using heap_alloc_new (W.alloc O) O
  have f2 : (((W.alloc O).alloc O).alloc O).heap[W.heap.size + 1 + 1]? = some O := by rw [← s2]; simpa using heap_alloc_new ((W.alloc O).alloc O) O
  have f3 : ((((W.alloc O).alloc O).alloc O).alloc O).heap[W.heap.size + 1 + 1 + 1]? = some O := by rw [← s3]; simpa using heap_alloc_new (((W.alloc O).alloc O).alloc O) O
  exact ⟨blk_drew (blk_alloc (blk_alloc (blk_alloc f0 _) _) _), blk_drew (blk_alloc (blk_alloc f1 _) _), blk_drew (blk_alloc f2 _), blk_drew f3⟩
theorem below4 (W : World) (O : Obj) : Below W.heap.size W ((((W.alloc O).alloc O).alloc O).alloc O).drew := below_drew1 (below_alloc (below_alloc (below_alloc (below_alloc (Below.refl _ _) _) _) _) _)
set_option maxHeartbeats 40000000 in
set_option maxRecDepth 100000 in
theorem kinds_calls (k : Nat) (A : Option Addr) (n c : Nat) (X : ByteArray) (r : Bool) (w : World) (h : thresherlaw16_wakes.f k = some r) :
    Calls Try.prog 3 #[.agg #[.slice A n c, .string X]] w fun e w' => e = .returned (.bool r) ∧ Below w.heap.size w w' := by
  have hu24 := Try.underlying24
  have hu26 := Try.underlying26
  have HW := Aside0.mk h
  clear h
  have HB := Aside0.mk (Below.refl w.heap.size w)
  have hlen0 : (0 : Int) ≤ (n : Int) := Int.natCast_nonneg _
  have hlen1 : decide ((n : Int) ≥ 0) = true := decide_eq_true hlen0
  go_enter Try.func3, Try.ntmps3
  go_wp2_with (first
    | ((with_reducible refine gate_dst (N := 1) rfl ?_); refine box_event ?hg (N := 1) ?hd (cs := #[.slice A n c, .string X]) (t := 24) ?hr ?_; (case hd => rfl); (case hg => rfl); (case hr => first | (go_simp; done) | (go_simp; rfl)); intro gb hg w2 hbox hb; have n0_ := Aside0.mk (below_step HB.out hb); have BK := Aside0.mk hbox; clear HB; have HB := n0_; clear n0_; clear hb hbox hg)
    | ((with_reducible refine gate_dst (N := 17) rfl ?_); refine Kd.R_lit k26 _ 26 ?hg (N := 17) ?hd (xs := good) (inner := [.int .i64 1, .int .i64 1, .int .i64 0, .int .i64 0, .string (⟨#[120]⟩ : ByteArray), .int .i64 2, .int .i64 1, .int .i64 1, .int .i64 0, .string (⟨#[120]⟩ : ByteArray), .int .i64 3, .int .i64 1, .int .i64 0, .int .i64 1, .string (⟨#[120]⟩ : ByteArray), .int .i64 3, .int .i64 1, .int .i64 0, .int .i64 9, .string (⟨#[]⟩ : ByteArray), .int .i64 4, .int .i64 1, .int .i64 0, .int .i64 0, .string (⟨#[]⟩ : ByteArray), .int .i64 5, .int .i64 1, .int .i64 0, .int .i64 9, .string (⟨#[]⟩ : ByteArray)]) (ok := fun _ => True) (okp := fun _ => True) ?hr ?hp (fun _ hk => hk) trivial (Below.refl _ _) (Nat.le_refl _) (by simp [good]) ?_; (case hd => rfl); (case hg => rfl); (case hr => first | (go_simp; done) | (go_simp; rfl)); (case hp => exact (Reps.c5 (show Kd.M k26 _ _ _ (⟨1, 1, 0, 0, (⟨#[120]⟩ : ByteArray)⟩ : S26) [.int .i64 1, .int .i64 1, .int .i64 0, .int .i64 0, .string (⟨#[120]⟩ : ByteArray)] from (k26_mkM _ _ _ _)) (Reps.c5 (show Kd.M k26 _ _ _ (⟨2, 1, 1, 0, (⟨#[120]⟩ : ByteArray)⟩ : S26) [.int .i64 2, .int .i64 1, .int .i64 1, .int .i64 0, .string (⟨#[120]⟩ : ByteArray)] from (k26_mkM _ _ _ _)) (Reps.c5 (show Kd.M k26 _ _ _ (⟨3, 1, 0, 1, (⟨#[120]⟩ : ByteArray)⟩ : S26) [.int .i64 3, .int .i64 1, .int .i64 0, .int .i64 1, .string (⟨#[120]⟩ : ByteArray)] from (k26_mkM _ _ _ _)) (Reps.c5 (show Kd.M k26 _ _ _ (⟨3, 1, 0, 9, (⟨#[]⟩ : ByteArray)⟩ : S26) [.int .i64 3, .int .i64 1, .int .i64 0, .int .i64 9, .string (⟨#[]⟩ : ByteArray)] from (k26_mkM _ _ _ _)) (Reps.c5 (show Kd.M k26 _ _ _ (⟨4, 1, 0, 0, (⟨#[]⟩ : ByteArray)⟩ : S26) [.int .i64 4, .int .i64 1, .int .i64 0, .int .i64 0, .string (⟨#[]⟩ : ByteArray)] from (k26_mkM _ _ _ _)) (Reps.c5 (show Kd.M k26 _ _ _ (⟨5, 1, 0, 9, (⟨#[]⟩ : ByteArray)⟩ : S26) [.int .i64 5, .int .i64 1, .int .i64 0, .int .i64 9, .string (⟨#[]⟩ : ByteArray)] from (k26_mkM _ _ _ _)) (Reps.none _ _)))))))); intro v1 w3 ho hb hg_ hnew_; clear hg_ hnew_; have n0_ := Aside0.mk (Kd.R_lower ho (below_size HB.out)); have n1_ := Aside0.mk (blk_below BK.out hb); have n2_ := Aside0.mk (below_step HB.out hb); clear HB BK ho hb; have HO := n0_; have BK := n1_; have HB := n2_; clear n0_ n1_ n2_))
  obtain ⟨y, hy⟩ : ∃ y, good = y := ⟨_, rfl⟩
  have hyl : y.length = 6 := by rw [← hy]; rfl
  have hny : ∀ i, nth i = rd_T26 y i := fun i => by rw [← hy]; rfl
  have NY := Aside0.mk hny
  rw [hy] at HO
  clear hy hny
  obtain ⟨Ao, co, eo⟩ := Kd.R_slice HO.out
  subst eo
  rw [hyl] at *
  go_loopg [4] 6 (fun m v4 w' => ∃ (i : Int), v4 = .int .i64 i ∧ Aside0 (0 ≤ i ∧ i + m = 6) ∧ Aside0 (Kd.R k26 26 w' w.heap.size (fun _ => True) (.slice Ao 6 co) y) ∧ Aside0 (w'.heap[gb]? = some (.cells #[.slice A n c, .string X] 24 (0, 0))) ∧ Aside0 (Below w.heap.size w w'))
  case atStart => exact ⟨0, rfl, ⟨by omega⟩, HO, BK, HB⟩
  case round =>
    clear HO BK HB
    obtain ⟨i, rfl, HI, HO, BK, HB⟩ := hrel
    by_cases hlt : i < 6
    · obtain ⟨m, rfl⟩ : ∃ m, gk = m + 1 := ⟨gk - 1, by have := HI.out.2; omega⟩
      have h0 : 0 ≤ i := HI.out.1
      have hlt1 : decide (i < 6) = true := decide_eq_true hlt
      have p1 : (0 ≤ i) = True := eq_true h0
      have q1 : (i < 6) = True := eq_true hlt
      obtain ⟨ad, rfl⟩ := someAd HO.out
      obtain ⟨e, he0⟩ : ∃ e, rd_T26 y i = e := ⟨_, rfl⟩
      have hch := checks i h0 hlt
      rw [NY.out i, he0] at hch
      obtain ⟨e1, e2, e3, e4, e5, e6, b1, b2⟩ := hch
      have E1 := Aside0.mk e1
      have E2 := Aside0.mk e2
      have E3 := Aside0.mk e3
      have E4 := Aside0.mk e4
      have E5 := Aside0.mk e5
      have E6 := Aside0.mk e6
      have he := Aside0.mk he0
      clear e1 e2 e3 e4 e5 e6 he0
      obtain ⟨hx0, hx1, hx2, hx3, hx4⟩ := cellsE HO.out h0 hlt he.out
      go_upto_region 7 with (first
        | (go_at_call 13; (with_reducible refine (ent_Check.calls 5 _ _ _ _ _ _ _ E1.out).mono ?_); rintro e_ w9 ⟨rfl, hb⟩; have n0_ := Aside0.mk (Kd.R_below HO.out hb); have n1_ := Aside0.mk (blk_below BK.out hb); have n2_ := Aside0.mk (below_step HB.out hb); clear HO BK HB hx0 hx1 hx2 hx3 hx4; have HO := n0_; have BK := n1_; have HB := n2_; clear n0_ n1_ n2_; obtain ⟨hx0, hx1, hx2, hx3, hx4⟩ := cellsE HO.out h0 hlt he.out; clear hb)
        | (go_at_call 12; (with_reducible refine (thresherlaw16_num.calls 0 0 _ rfl).mono ?_); rintro e_ w9 ⟨rfl, hd⟩; have hb := hd.below; have n0_ := Aside0.mk (Kd.R_below HO.out hb); have n1_ := Aside0.mk (blk_below BK.out hb); have n2_ := Aside0.mk (below_step HB.out hb); clear HO BK HB hx0 hx1 hx2 hx3 hx4; have HO := n0_; have BK := n1_; have HB := n2_; clear n0_ n1_ n2_; obtain ⟨hx0, hx1, hx2, hx3, hx4⟩ := cellsE HO.out h0 hlt he.out; clear hb hd))
      go_cut [5, 6, 7, 8] (fun v5 v6 v7 v8 wc => ∃ g5 g6 g7 g8 : Nat, v5 = .pointer (some ⟨g5, 0, none⟩) ∧ v6 = .pointer (some ⟨g6, 0, none⟩) ∧ v7 = .pointer (some ⟨g7, 0, none⟩) ∧ v8 = .pointer (some ⟨g8, 0, none⟩) ∧ Aside0 (w.heap.size ≤ g5 ∧ w.heap.size ≤ g6 ∧ w.heap.size ≤ g7 ∧ w.heap.size ≤ g8) ∧ Aside0 (w9.heap.size ≤ g5 ∧ w9.heap.size ≤ g6 ∧ w9.heap.size ≤ g7 ∧ w9.heap.size ≤ g8) ∧ Aside0 (g5 ≠ g6 ∧ g5 ≠ g7 ∧ g5 ≠ g8 ∧ g6 ≠ g7 ∧ g6 ≠ g8 ∧ g7 ≠ g8) ∧ Aside0 (wc.heap[g5]? = some (.cells #[.int .i64 e.f0, .int .i64 e.f1, .int .i64 e.f2, .int .i64 e.f3, .string e.f4] 26 (0, 0))) ∧ Aside0 (wc.heap[g6]? = some (.cells #[.int .i64 e.f0, .int .i64 e.f1, .int .i64 e.f2, .int .i64 e.f3, .string e.f4] 26 (0, 0))) ∧ Aside0 (wc.heap[g7]? = some (.cells #[.int .i64 e.f0, .int .i64 e.f1, .int .i64 e.f2, .int .i64 e.f3, .string e.f4] 26 (0, 0))) ∧ Aside0 (wc.heap[g8]? = some (.cells #[.int .i64 e.f0, .int .i64 e.f1, .int .i64 e.f2, .int .i64 e.f3, .string e.f4] 26 (0, 0))) ∧ Aside0 (Below w9.heap.size w9 wc))
      case first =>
        have F_ := Aside0.mk (four w9 (.cells #[.int .i64 e.f0, .int .i64 e.f1, .int .i64 e.f2, .int .i64 e.f3, .string e.f4] 26 (0, 0)))
        have B4_ := Aside0.mk (below4 w9 (.cells #[.int .i64 e.f0, .int .i64 e.f1, .int .i64 e.f2, .int .i64 e.f3, .string e.f4] 26 (0, 0)))
        have S0_ : Aside0 (w.heap.size ≤ w9.heap.size) := ⟨HB.out.size⟩
        go_region_held3 (fun w' => w'.cell? (ad.add (i.toNat * 5)) = some (.int .i64 e.f0) ∧ w'.cell? ⟨(ad.add (i.toNat * 5)).block, (ad.add (i.toNat * 5)).off + 1, none⟩ = some (.int .i64 e.f1) ∧ w'.cell? ⟨(ad.add (i.toNat * 5)).block, (ad.add (i.toNat * 5)).off + 2, none⟩ = some (.int .i64 e.f2) ∧ w'.cell? ⟨(ad.add (i.toNat * 5)).block, (ad.add (i.toNat * 5)).off + 3, none⟩ = some (.int .i64 e.f3) ∧ w'.cell? ⟨(ad.add (i.toNat * 5)).block, (ad.add (i.toNat * 5)).off + 4, none⟩ = some (.string e.f4)) (exact ⟨keep1 hx0 (by repeat (first | exact Below.refl _ _ | refine below_alloc ?_ _ | refine below_drew1 ?_ | refine below_set ?_ (by first | (simp; done) | (simp; omega)))), keep1 hx1 (by repeat (first | exact Below.refl _ _ | refine below_alloc ?_ _ | refine below_drew1 ?_ | refine below_set ?_ (by first | (simp; done) | (simp; omega)))), keep1 hx2 (by repeat (first | exact Below.refl _ _ | refine below_alloc ?_ _ | refine below_drew1 ?_ | refine below_set ?_ (by first | (simp; done) | (simp; omega)))), keep1 hx3 (by repeat (first | exact Below.refl _ _ | refine below_alloc ?_ _ | refine below_drew1 ?_ | refine below_set ?_ (by first | (simp; done) | (simp; omega)))), keep1 hx4 (by repeat (first | exact Below.refl _ _ | refine below_alloc ?_ _ | refine below_drew1 ?_ | refine below_set ?_ (by first | (simp; done) | (simp; omega))))⟩) (fail)
        all_goals
          go_wp2
          go_meet
          case rel => exact ⟨_, _, _, _, rfl, rfl, rfl, rfl, ⟨by have := S0_.out; omega⟩, ⟨by omega⟩, ⟨by omega⟩, ⟨by first | exact F_.out.1 | exact F_.out.2.1 | exact F_.out.2.2.1 | exact F_.out.2.2.2⟩, ⟨by first | exact F_.out.1 | exact F_.out.2.1 | exact F_.out.2.2.1 | exact F_.out.2.2.2⟩, ⟨by first | exact F_.out.1 | exact F_.out.2.1 | exact F_.out.2.2.1 | exact F_.out.2.2.2⟩, ⟨by first | exact F_.out.1 | exact F_.out.2.1 | exact F_.out.2.2.1 | exact F_.out.2.2.2⟩, B4_⟩
      case rest =>
        obtain ⟨g5, g6, g7, g8, rfl, rfl, rfl, rfl, GE, GE9, NE, F5, F6, F7, F8, HB9⟩ := hcut
        clear hx0 hx1 hx2 hx3 hx4
        obtain ⟨ha0, ha1, ha2, ha3, ha4⟩ := cells5 F5.out
        obtain ⟨hc0, hc1, hc2, hc3, hc4⟩ := cells5 F6.out
        obtain ⟨hd0, hd1, hd2, hd3, hd4⟩ := cells5 F7.out
        obtain ⟨he0, he1, he2, he3, he4⟩ := cells5 F8.out
        have hf5 := fun i_ => blk_frozen F5.out i_
        have hf6 := fun i_ => blk_frozen F6.out i_
        have hf7 := fun i_ => blk_frozen F7.out i_
        have hf8 := fun i_ => blk_frozen F8.out i_
        obtain ⟨n56, n57, n58, n67, n68, n78⟩ := NE.out
        have m56 := Ne.symm n56
        have m57 := Ne.symm n57
        have m58 := Ne.symm n58
        have m67 := Ne.symm n67
        have m68 := Ne.symm n68
        have m78 := Ne.symm n78
        have b3 : 0 ≤ 1 - e.f2 := by omega
        go_upto_region 12 with (fail)
        have BW : Below w9.heap.size w9 ((((wc.setCell ⟨g5, 1, none⟩ (.int .i64 0)).setCell ⟨g6, 2, none⟩ (.int .i64 (1 - e.f2))).setCell ⟨g7, 0, none⟩ (.int .i64 (e.f0 + 10))).setCell ⟨g8, 3, none⟩ (.int .i64 65)) := below_set (below_set (below_set (below_set HB9.out GE9.out.1) GE9.out.2.1) GE9.out.2.2.1) GE9.out.2.2.2
        have n0_ := Aside0.mk (Kd.R_below HO.out BW)
        have n1_ := Aside0.mk (blk_below BK.out BW)
        have n2_ := Aside0.mk (below_step HB.out BW)
        have q5 : Aside0 (((((wc.setCell ⟨g5, 1, none⟩ (.int .i64 0)).setCell ⟨g6, 2, none⟩ (.int .i64 (1 - e.f2))).setCell ⟨g7, 0, none⟩ (.int .i64 (e.f0 + 10))).setCell ⟨g8, 3, none⟩ (.int .i64 65)).heap[g5]? = some (.cells #[.int .i64 e.f0, .int .i64 0, .int .i64 e.f2, .int .i64 e.f3, .string e.f4] 26 (0, 0))) := ⟨blk_far (blk_far (blk_far (blk_put F5.out 1 _ rfl) n56 _) n57 _) n58 _⟩
        have q6 : Aside0 (((((wc.setCell ⟨g5, 1, none⟩ (.int .i64 0)).setCell ⟨g6, 2, none⟩ (.int .i64 (1 - e.f2))).setCell ⟨g7, 0, none⟩ (.int .i64 (e.f0 + 10))).setCell ⟨g8, 3, none⟩ (.int .i64 65)).heap[g6]? = some (.cells #[.int .i64 e.f0, .int .i64 e.f1, .int .i64 (1 - e.f2), .int .i64 e.f3, .string e.f4] 26 (0, 0))) := ⟨blk_far (blk_far (blk_put (blk_far F6.out m56 _) 2 _ rfl) n67 _) n68 _⟩
        have q7 : Aside0 (((((wc.setCell ⟨g5, 1, none⟩ (.int .i64 0)).setCell ⟨g6, 2, none⟩ (.int .i64 (1 - e.f2))).setCell ⟨g7, 0, none⟩ (.int .i64 (e.f0 + 10))).setCell ⟨g8, 3, none⟩ (.int .i64 65)).heap[g7]? = some (.cells #[.int .i64 (e.f0 + 10), .int .i64 e.f1, .int .i64 e.f2, .int .i64 e.f3, .string e.f4] 26 (0, 0))) := ⟨blk_far (blk_put (blk_far (blk_far F7.out m57 _) m67 _) 0 _ rfl) n78 _⟩
        have q8 : Aside0 (((((wc.setCell ⟨g5, 1, none⟩ (.int .i64 0)).setCell ⟨g6, 2, none⟩ (.int .i64 (1 - e.f2))).setCell ⟨g7, 0, none⟩ (.int .i64 (e.f0 + 10))).setCell ⟨g8, 3, none⟩ (.int .i64 65)).heap[g8]? = some (.cells #[.int .i64 e.f0, .int .i64 e.f1, .int .i64 e.f2, .int .i64 65, .string e.f4] 26 (0, 0))) := ⟨blk_put (blk_far (blk_far (blk_far F8.out m58 _) m68 _) m78 _) 3 _ rfl⟩
        clear BW HO BK HB HB9 GE9 F5 F6 F7 F8 ha0 ha1 ha2 ha3 ha4 hc0 hc1 hc2 hc3 hc4 hd0 hd1 hd2 hd3 hd4 he0 he1 he2 he3 he4 hf5 hf6 hf7 hf8 n56 n57 n58 n67 n68 n78 m56 m57 m58 m67 m68 m78
        generalize ((((wc.setCell ⟨g5, 1, none⟩ (.int .i64 0)).setCell ⟨g6, 2, none⟩ (.int .i64 (1 - e.f2))).setCell ⟨g7, 0, none⟩ (.int .i64 (e.f0 + 10))).setCell ⟨g8, 3, none⟩ (.int .i64 65)) = w19 at *
        have HO := n0_
        have BK := n1_
        have HB := n2_
        have F5 := q5
        have F6 := q6
        have F7 := q7
        have F8 := q8
        clear n0_ n1_ n2_ q5 q6 q7 q8
        obtain ⟨hx0, hx1, hx2, hx3, hx4⟩ := cellsE HO.out h0 hlt he.out
        obtain ⟨ha0, ha1, ha2, ha3, ha4⟩ := cells5 F5.out
        obtain ⟨hc0, hc1, hc2, hc3, hc4⟩ := cells5 F6.out
        obtain ⟨hd0, hd1, hd2, hd3, hd4⟩ := cells5 F7.out
        obtain ⟨he0, he1, he2, he3, he4⟩ := cells5 F8.out
        obtain ⟨cx, hcx, hm⟩ : ∃ cx : Int, (if i < 3 then (0 : Int) else 1) = cx ∧ Aside0 ((decide (i < 3) = true ∧ cx = 0) ∨ (decide (i < 3) = false ∧ cx = 1)) := ⟨_, rfl, ⟨by by_cases h3 : i < 3 <;> simp [h3]⟩⟩
        have E6' : Aside0 (ent_Check.f 5 e.f0 e.f1 e.f2 e.f3 ⟨#[121]⟩ = some cx) := ⟨by rw [← hcx]; exact E6.out⟩
        clear E6 hcx
        have E6 := E6'
        clear E6'
        go_upto_region 14 with (first
          | (go_at_call 13; (with_reducible refine (ent_Check.calls 5 _ _ _ _ _ _ _ E2.out).mono ?_); rintro e_ w20 ⟨rfl, hb⟩; have n0_ := Aside0.mk (Kd.R_below HO.out hb); have n1_ := Aside0.mk (blk_below BK.out hb); have n2_ := Aside0.mk (below_step HB.out hb); have n5_ := Aside0.mk (blk_below F5.out hb); have n6_ := Aside0.mk (blk_below F6.out hb); have n7_ := Aside0.mk (blk_below F7.out hb); have n8_ := Aside0.mk (blk_below F8.out hb); clear HO BK HB F5 F6 F7 F8 hx0 hx1 hx2 hx3 hx4; (try clear ha0 ha1 ha2 ha3 ha4); (try clear hc0 hc1 hc2 hc3 hc4); (try clear hd0 hd1 hd2 hd3 hd4); (try clear he0 he1 he2 he3 he4); have HO := n0_; have BK := n1_; have HB := n2_; have F5 := n5_; have F6 := n6_; have F7 := n7_; have F8 := n8_; clear n0_ n1_ n2_ n5_ n6_ n7_ n8_ hb; obtain ⟨hx0, hx1, hx2, hx3, hx4⟩ := cellsE HO.out h0 hlt he.out; obtain ⟨ha0, ha1, ha2, ha3, ha4⟩ := cells5 F5.out; obtain ⟨hc0, hc1, hc2, hc3, hc4⟩ := cells5 F6.out; obtain ⟨hd0, hd1, hd2, hd3, hd4⟩ := cells5 F7.out; obtain ⟨he0, he1, he2, he3, he4⟩ := cells5 F8.out)
          | (go_at_call 13; (with_reducible refine (ent_Check.calls 5 _ _ _ _ _ _ _ E3.out).mono ?_); rintro e_ w20 ⟨rfl, hb⟩; have n0_ := Aside0.mk (Kd.R_below HO.out hb); have n1_ := Aside0.mk (blk_below BK.out hb); have n2_ := Aside0.mk (below_step HB.out hb); have n5_ := Aside0.mk (blk_below F5.out hb); have n6_ := Aside0.mk (blk_below F6.out hb); have n7_ := Aside0.mk (blk_below F7.out hb); have n8_ := Aside0.mk (blk_below F8.out hb); clear HO BK HB F5 F6 F7 F8 hx0 hx1 hx2 hx3 hx4; (try clear ha0 ha1 ha2 ha3 ha4); (try clear hc0 hc1 hc2 hc3 hc4); (try clear hd0 hd1 hd2 hd3 hd4); (try clear he0 he1 he2 he3 he4); have HO := n0_; have BK := n1_; have HB := n2_; have F5 := n5_; have F6 := n6_; have F7 := n7_; have F8 := n8_; clear n0_ n1_ n2_ n5_ n6_ n7_ n8_ hb; obtain ⟨hx0, hx1, hx2, hx3, hx4⟩ := cellsE HO.out h0 hlt he.out; obtain ⟨ha0, ha1, ha2, ha3, ha4⟩ := cells5 F5.out; obtain ⟨hc0, hc1, hc2, hc3, hc4⟩ := cells5 F6.out; obtain ⟨hd0, hd1, hd2, hd3, hd4⟩ := cells5 F7.out; obtain ⟨he0, he1, he2, he3, he4⟩ := cells5 F8.out)
          | (go_at_call 13; (with_reducible refine (ent_Check.calls 5 _ _ _ _ _ _ _ E4.out).mono ?_); rintro e_ w20 ⟨rfl, hb⟩; have n0_ := Aside0.mk (Kd.R_below HO.out hb); have n1_ := Aside0.mk (blk_below BK.out hb); have n2_ := Aside0.mk (below_step HB.out hb); have n5_ := Aside0.mk (blk_below F5.out hb); have n6_ := Aside0.mk (blk_below F6.out hb); have n7_ := Aside0.mk (blk_below F7.out hb); have n8_ := Aside0.mk (blk_below F8.out hb); clear HO BK HB F5 F6 F7 F8 hx0 hx1 hx2 hx3 hx4; (try clear ha0 ha1 ha2 ha3 ha4); (try clear hc0 hc1 hc2 hc3 hc4); (try clear hd0 hd1 hd2 hd3 hd4); (try clear he0 he1 he2 he3 he4); have HO := n0_; have BK := n1_; have HB := n2_; have F5 := n5_; have F6 := n6_; have F7 := n7_; have F8 := n8_; clear n0_ n1_ n2_ n5_ n6_ n7_ n8_ hb; obtain ⟨hx0, hx1, hx2, hx3, hx4⟩ := cellsE HO.out h0 hlt he.out; obtain ⟨ha0, ha1, ha2, ha3, ha4⟩ := cells5 F5.out; obtain ⟨hc0, hc1, hc2, hc3, hc4⟩ := cells5 F6.out; obtain ⟨hd0, hd1, hd2, hd3, hd4⟩ := cells5 F7.out; obtain ⟨he0, he1, he2, he3, he4⟩ := cells5 F8.out)
          | (go_at_call 13; (with_reducible refine (ent_Check.calls 5 _ _ _ _ _ _ _ E5.out).mono ?_); rintro e_ w20 ⟨rfl, hb⟩; have n0_ := Aside0.mk (Kd.R_below HO.out hb); have n1_ := Aside0.mk (blk_below BK.out hb); have n2_ := Aside0.mk (below_step HB.out hb); have n5_ := Aside0.mk (blk_below F5.out hb); have n6_ := Aside0.mk (blk_below F6.out hb); have n7_ := Aside0.mk (blk_below F7.out hb); have n8_ := Aside0.mk (blk_below F8.out hb); clear HO BK HB F5 F6 F7 F8 hx0 hx1 hx2 hx3 hx4; (try clear ha0 ha1 ha2 ha3 ha4); (try clear hc0 hc1 hc2 hc3 hc4); (try clear hd0 hd1 hd2 hd3 hd4); (try clear he0 he1 he2 he3 he4); have HO := n0_; have BK := n1_; have HB := n2_; have F5 := n5_; have F6 := n6_; have F7 := n7_; have F8 := n8_; clear n0_ n1_ n2_ n5_ n6_ n7_ n8_ hb; obtain ⟨hx0, hx1, hx2, hx3, hx4⟩ := cellsE HO.out h0 hlt he.out; obtain ⟨ha0, ha1, ha2, ha3, ha4⟩ := cells5 F5.out; obtain ⟨hc0, hc1, hc2, hc3, hc4⟩ := cells5 F6.out; obtain ⟨hd0, hd1, hd2, hd3, hd4⟩ := cells5 F7.out; obtain ⟨he0, he1, he2, he3, he4⟩ := cells5 F8.out)
          | (go_at_call 12; (with_reducible refine (thresherlaw16_num.calls 1 1 _ rfl).mono ?_); rintro e_ w20 ⟨rfl, hd⟩; have hb := hd.below; clear hd; have n0_ := Aside0.mk (Kd.R_below HO.out hb); have n1_ := Aside0.mk (blk_below BK.out hb); have n2_ := Aside0.mk (below_step HB.out hb); have n5_ := Aside0.mk (blk_below F5.out hb); have n6_ := Aside0.mk (blk_below F6.out hb); have n7_ := Aside0.mk (blk_below F7.out hb); have n8_ := Aside0.mk (blk_below F8.out hb); clear HO BK HB F5 F6 F7 F8 hx0 hx1 hx2 hx3 hx4; (try clear ha0 ha1 ha2 ha3 ha4); (try clear hc0 hc1 hc2 hc3 hc4); (try clear hd0 hd1 hd2 hd3 hd4); (try clear he0 he1 he2 he3 he4); have HO := n0_; have BK := n1_; have HB := n2_; have F5 := n5_; have F6 := n6_; have F7 := n7_; have F8 := n8_; clear n0_ n1_ n2_ n5_ n6_ n7_ n8_ hb; obtain ⟨hx0, hx1, hx2, hx3, hx4⟩ := cellsE HO.out h0 hlt he.out; obtain ⟨ha0, ha1, ha2, ha3, ha4⟩ := cells5 F5.out; obtain ⟨hc0, hc1, hc2, hc3, hc4⟩ := cells5 F6.out; obtain ⟨hd0, hd1, hd2, hd3, hd4⟩ := cells5 F7.out; obtain ⟨he0, he1, he2, he3, he4⟩ := cells5 F8.out))
        go_upto_region 17 with (first
          | ((with_reducible refine gate_dst (N := 9) rfl ?_); refine box_event ?hg (N := 9) ?hd (cs := #[.int .i64 0, .int .i64 0, .int .i64 0, .int .i64 0, .string (⟨#[]⟩ : ByteArray)]) (t := 26) ?hr ?_; (case hd => rfl); (case hg => rfl); (case hr => first | (go_simp; done) | (go_simp; rfl)); intro g9 hg w21 hbox hb; have F9 := Aside0.mk hbox; have HBB := Aside0.mk hb; have HG9 : Aside0 (w20.heap.size ≤ g9) := ⟨Nat.le_of_eq hg.symm⟩; clear hb hbox hg; obtain ⟨hb0, hb1, hb2, hb3, hb4⟩ := cells5 F9.out; have hbf := fun i_ => blk_frozen F9.out i_))
        have BW9 : Below w20.heap.size w20 ((((((w21.setCell ⟨g9, 0, none⟩ (.int .i64 e.f0)).setCell ⟨g9, 1, none⟩ (.int .i64 e.f1)).setCell ⟨g9, 2, none⟩ (.int .i64 e.f2)).setCell ⟨g9, 3, none⟩ (.int .i64 e.f3)).setCell ⟨g9, 4, none⟩ (.string e.f4)).setCell ⟨g9, 4, none⟩ (.string ⟨#[121]⟩)) := below_set (below_set (below_set (below_set (below_set (below_set HBB.out HG9.out) HG9.out) HG9.out) HG9.out) HG9.out) HG9.out
        have n0_ := Aside0.mk (Kd.R_below HO.out BW9)
        have n1_ := Aside0.mk (blk_below BK.out BW9)
        have n2_ := Aside0.mk (below_step HB.out BW9)
        have n9_ : Aside0 (((((((w21.setCell ⟨g9, 0, none⟩ (.int .i64 e.f0)).setCell ⟨g9, 1, none⟩ (.int .i64 e.f1)).setCell ⟨g9, 2, none⟩ (.int .i64 e.f2)).setCell ⟨g9, 3, none⟩ (.int .i64 e.f3)).setCell ⟨g9, 4, none⟩ (.string e.f4)).setCell ⟨g9, 4, none⟩ (.string ⟨#[121]⟩)).heap[g9]? = some (.cells #[.int .i64 e.f0, .int .i64 e.f1, .int .i64 e.f2, .int .i64 e.f3, .string ⟨#[121]⟩] 26 (0, 0))) := ⟨blk_put (blk_put (blk_put (blk_put (blk_put (blk_put F9.out 0 _ rfl) 1 _ rfl) 2 _ rfl) 3 _ rfl) 4 _ rfl) 4 _ rfl⟩
        clear BW9 HO BK HB F9 HBB HG9 hb0 hb1 hb2 hb3 hb4 hbf hx0 hx1 hx2 hx3 hx4 F5 F6 F7 F8 ha0 ha1 ha2 ha3 ha4 hc0 hc1 hc2 hc3 hc4 hd0 hd1 hd2 hd3 hd4 he0 he1 he2 he3 he4
        generalize ((((((w21.setCell ⟨g9, 0, none⟩ (.int .i64 e.f0)).setCell ⟨g9, 1, none⟩ (.int .i64 e.f1)).setCell ⟨g9, 2, none⟩ (.int .i64 e.f2)).setCell ⟨g9, 3, none⟩ (.int .i64 e.f3)).setCell ⟨g9, 4, none⟩ (.string e.f4)).setCell ⟨g9, 4, none⟩ (.string ⟨#[121]⟩)) = w22 at *
        have HO := n0_
        have BK := n1_
        have HB := n2_
        have F9 := n9_
        clear n0_ n1_ n2_ n9_
        obtain ⟨hb0, hb1, hb2, hb3, hb4⟩ := cells5 F9.out
        obtain ⟨h3b, rfl⟩ | ⟨h3b, rfl⟩ := hm.out
        all_goals
          go_wp2_with (first
            | (go_at_call 13; (with_reducible refine (ent_Check.calls 5 _ _ _ _ _ _ _ E6.out).mono ?_); rintro e_ w23 ⟨rfl, hb⟩; have n0_ := Aside0.mk (Kd.R_below HO.out hb); have n1_ := Aside0.mk (blk_below BK.out hb); have n2_ := Aside0.mk (below_step HB.out hb); have n9_ := Aside0.mk (blk_below F9.out hb); clear HO BK HB F9; have HO := n0_; have BK := n1_; have HB := n2_; have F9 := n9_; clear n0_ n1_ n2_ n9_ hb; clear hb0 hb1 hb2 hb3 hb4)
            | (go_at_call 12; (with_reducible refine (thresherlaw16_num.calls 0 0 _ rfl).mono ?_); rintro e_ w24 ⟨rfl, hd⟩; have hb := hd.below; clear hd; have n0_ := Aside0.mk (Kd.R_below HO.out hb); have n1_ := Aside0.mk (blk_below BK.out hb); have n2_ := Aside0.mk (below_step HB.out hb); have n9_ := Aside0.mk (blk_below F9.out hb); clear HO BK HB F9; have HO := n0_; have BK := n1_; have HB := n2_; have F9 := n9_; clear n0_ n1_ n2_ n9_ hb)
            | (go_at_call 12; (with_reducible refine (thresherlaw16_num.calls 1 1 _ rfl).mono ?_); rintro e_ w24 ⟨rfl, hd⟩; have hb := hd.below; clear hd; have n0_ := Aside0.mk (Kd.R_below HO.out hb); have n1_ := Aside0.mk (blk_below BK.out hb); have n2_ := Aside0.mk (below_step HB.out hb); have n9_ := Aside0.mk (blk_below F9.out hb); clear HO BK HB F9; have HO := n0_; have BK := n1_; have HB := n2_; have F9 := n9_; clear n0_ n1_ n2_ n9_ hb))
          go_roundg m
          case measure => omega
          case rel => exact ⟨i + 1, by first | rfl | go_num, ⟨by have := HI.out; omega⟩, HO, BK, HB⟩
    · have hlt1 : decide (i < 6) = false := decide_eq_false hlt
      obtain ⟨hz0, hz1⟩ := cells2 BK.out
      have hzf := fun i_ => blk_frozen BK.out i_
      go_wp2_with (first
        | (go_at_call 14; (with_reducible refine (thresherlaw16_wakes.calls k r _ HW.out).mono ?_); rintro e_ w24 ⟨rfl, hb⟩; have n0_ := Aside0.mk (below_step HB.out hb); clear HB; have HB := n0_; clear n0_ hb))
      go_ret
      exact ⟨by first | rfl | simp, HB.out⟩
end EntKindsHand
def thresherlaw16_EntKinds.f (k : Nat) (l0_0 : List (S26)) (a0_1 : ByteArray) : Option Bool := thresherlaw16_wakes.f k
theorem thresherlaw16_EntKinds.mono : ∀ a0 a1 k, LeO (thresherlaw16_EntKinds.f k a0 a1) (thresherlaw16_EntKinds.f (k + 1) a0 a1) := fun _ _ k => thresherlaw16_wakes.mono k
theorem thresherlaw16_EntKinds.calls (k : Nat) (A0_0 : Option Addr) (c0_0 : Nat) (l0_0 : List (S26)) (a0_1 : ByteArray) (r : Bool) (w : World) (hr0_0 : Kd.C k26 w A0_0 l0_0.length l0_0) (hc0_0 : l0_0.length ≤ c0_0) (h : thresherlaw16_EntKinds.f k l0_0 a0_1 = some r) :
    Calls Try.prog 3 #[.agg #[.slice A0_0 l0_0.length c0_0, .string a0_1]] w fun e w' => e = .returned (.bool r) ∧ Below w.heap.size w w' := EntKindsHand.kinds_calls k A0_0 l0_0.length c0_0 a0_1 r w h


/-! ### thresherlaw0_TextWeight: function 36 -/
def thresherlaw0_TextWeight.l0 : Nat → List ByteArray → Int → Int → Option (Int)
  | 0, _, _, _ => none
  | k + 1, x0, x3, x4 => if x4 < (x0.length : Int) then (if x3 < 1048576 then (if 0 ≤ x4 then (thresherlaw0_TextWeight.l0 k x0 (wrap64 (x3 + ((rdOf ByteArray.empty x0 x4).size : Int))) (wrap64 (x4 + 1))) else (none)) else (some x3)) else (some x3)
def thresherlaw0_TextWeight.f (k : Nat) (l0 : List ByteArray) : Option (Int) := thresherlaw0_TextWeight.l0 k l0 (l0.length : Int) 0
theorem thresherlaw0_TextWeight.mono_l : ∀ k, (∀ y0 y1 y2, LeO (thresherlaw0_TextWeight.l0 k y0 y1 y2) (thresherlaw0_TextWeight.l0 (k + 1) y0 y1 y2))
  | 0 => fun _ _ _ r h => by simp [thresherlaw0_TextWeight.l0] at h
  | k + 1 => by
    have ih0 := thresherlaw0_TextWeight.mono_l k
    · intro y0 y1 y2
      unfold thresherlaw0_TextWeight.l0
      repeat' first
      | (with_reducible exact ih0 _ _ _)
      | (with_reducible exact LeO.refl _)
      | (with_reducible exact LeO.none _)
      | (with_reducible refine LeO.ite ?_ ?_)
      | (with_reducible refine LeO.bind ?_ (fun _ => ?_))
      | exact ih0 _ _ _
      | exact LeO.none _
      | refine LeO.ite ?_ ?_
      | refine LeO.bind ?_ (fun _ => ?_)
theorem thresherlaw0_TextWeight.mono : ∀ a0 k, LeO (thresherlaw0_TextWeight.f k a0) (thresherlaw0_TextWeight.f (k + 1) a0) := by
  intro a0 k
  have ih0 := thresherlaw0_TextWeight.mono_l k
  unfold thresherlaw0_TextWeight.f
  repeat' first
      | (with_reducible exact ih0 _ _ _)
      | (with_reducible exact LeO.refl _)
      | (with_reducible exact LeO.none _)
      | (with_reducible refine LeO.ite ?_ ?_)
      | (with_reducible refine LeO.bind ?_ (fun _ => ?_))
      | exact ih0 _ _ _
      | exact LeO.none _
      | refine LeO.ite ?_ ?_
      | refine LeO.bind ?_ (fun _ => ?_)
set_option maxHeartbeats 8000000 in
set_option maxRecDepth 100000 in
theorem thresherlaw0_TextWeight.calls (k : Nat) (A0 : Option Addr) (c0 : Nat) (l0 : List ByteArray) (r : Int) (w : World) (hr0 : Kd.C Kd.string w A0 l0.length l0) (hc0 : l0.length ≤ c0) (h : thresherlaw0_TextWeight.f k l0 = some r) :
    Calls Try.prog 36 #[.slice A0 l0.length c0] w fun e w' => e = .returned (.int .i64 r) ∧ Drawn0 w w' := by
  have HR0 := Aside0.mk hr0
  have HC0 := Aside0.mk hc0
  clear hr0 hc0
  have H : (thresherlaw0_TextWeight.l0 k l0 (l0.length : Int) 0) = some r := h
  clear h
  have H' := Aside0.mk H
  clear H
  go_enter Try.func36, Try.ntmps36
  go_wp2
  go_loopg [3, 4] k (fun kq v3 v4 w' => ∃ (x3_1 : Int) (x4_1 : Int), v3 = .int .i64 x3_1 ∧ v4 = .int .i64 x4_1 ∧ Aside0 (thresherlaw0_TextWeight.l0 kq l0 x3_1 x4_1 = some r) ∧ Aside0 (kq ≤ k) ∧ Drawn0 w w')
  case atStart => exact ⟨((l0.length : Int)), (0), (by first | rfl | (simp; done) | (simp [*]; done)), (by first | rfl | (simp; done) | (simp [*]; done)), H', ⟨Nat.le_refl _⟩, by repeat (first | exact Drawn0.refl _ | apply Drawn0.step)⟩
  case round =>
    clear H'
    obtain ⟨x3_1, x4_1, rfl, rfl, HA, HK1, ⟨m1, rfl⟩⟩ := hrel
    cases gk with
    | zero => exact absurd HA.out (by simp [thresherlaw0_TextWeight.l0])
    | succ k1 =>
      have H := HA.out
      clear HA
      simp only [thresherlaw0_TextWeight.l0] at H
      by_cases c2 : x4_1 < (l0.length : Int)
      · rw [if_pos c2] at H
        have c2b0 : decide (x4_1 < (l0.length : Int)) = true := decide_eq_true c2
        clear c2
        by_cases c3 : x3_1 < 1048576
        · rw [if_pos c3] at H
          have c3b0 : decide (x3_1 < 1048576) = true := decide_eq_true c3
          clear c3
          by_cases c4 : 0 ≤ x4_1
          · rw [if_pos c4] at H
            have c4b0 : decide (0 ≤ x4_1) = true := decide_eq_true c4
            clear c4
            have H' := Aside0.mk H
            clear H
            have p130 : 0 ≤ (x4_1 : Int) := of_decide_eq_true (by first | (with_reducible assumption) | assumption)
            have q130 : x4_1 < (l0.length : Int) := of_decide_eq_true (by first | (with_reducible assumption) | assumption)
            obtain ⟨ad130, e130, hx130_0⟩ := Kd.at_string HR0.out x4_1 p130 q130
            cases e130
            replace p130 := eq_true p130
            replace q130 := eq_true q130
            go_wp2
            go_roundg k1
            case measure => have := HK1.out; omega
            case rel => exact ⟨(wrap64 (x3_1 + ((rdOf ByteArray.empty l0 x4_1).size : Int))), (wrap64 (x4_1 + 1)), (by first | rfl | (simp; done) | (simp [*]; done)), (by first | rfl | (simp; done) | (simp [*]; done)), H', ⟨by have := HK1.out; omega⟩, by repeat (first | exact Drawn0.refl _ | apply Drawn0.step)⟩
          · rw [if_neg c4] at H
            exact absurd H (by simp)
        · rw [if_neg c3] at H
          have c3b0 : decide (x3_1 < 1048576) = false := decide_eq_false c3
          clear c3
          obtain rfl := Option.some.inj H
          go_wp2
          go_ret
          exact ⟨by first | rfl | (simp; done) | (simp [*]; done), by repeat (first | exact Drawn0.refl _ | apply Drawn0.step)⟩
      · rw [if_neg c2] at H
        have c2b0 : decide (x4_1 < (l0.length : Int)) = false := decide_eq_false c2
        clear c2
        obtain rfl := Option.some.inj H
        go_wp2
        go_ret
        exact ⟨by first | rfl | (simp; done) | (simp [*]; done), by repeat (first | exact Drawn0.refl _ | apply Drawn0.step)⟩

/-! ### thresherlaw5_heavy: function 15 -/
def thresherlaw5_heavy.f (k : Nat) (l0 : List ByteArray) : Option (Bool) := (thresherlaw0_TextWeight.f k l0).bind fun t131 => (some (decide (t131 > 9000)))
theorem thresherlaw5_heavy.mono : ∀ a0 k, LeO (thresherlaw5_heavy.f k a0) (thresherlaw5_heavy.f (k + 1) a0) := by
  intro a0 k
  unfold thresherlaw5_heavy.f
  repeat' first
      | (with_reducible exact thresherlaw0_TextWeight.mono _ _)
      | (with_reducible exact LeO.refl _)
      | (with_reducible exact LeO.none _)
      | (with_reducible refine LeO.ite ?_ ?_)
      | (with_reducible refine LeO.bind ?_ (fun _ => ?_))
      | exact thresherlaw0_TextWeight.mono _ _
      | exact LeO.none _
      | refine LeO.ite ?_ ?_
      | refine LeO.bind ?_ (fun _ => ?_)
set_option maxHeartbeats 8000000 in
set_option maxRecDepth 100000 in
theorem thresherlaw5_heavy.calls (k : Nat) (A0 : Option Addr) (c0 : Nat) (l0 : List ByteArray) (r : Bool) (w : World) (hr0 : Kd.C Kd.string w A0 l0.length l0) (hc0 : l0.length ≤ c0) (h : thresherlaw5_heavy.f k l0 = some r) :
    Calls Try.prog 15 #[.slice A0 l0.length c0] w fun e w' => e = .returned (.bool r) ∧ Drawn0 w w' := by
  have HR0 := Aside0.mk hr0
  have HC0 := Aside0.mk hc0
  clear hr0 hc0
  have H : ((thresherlaw0_TextWeight.f k l0).bind fun t131 => (some (decide (t131 > 9000)))) = some r := h
  clear h
  replace H := Option.bind_eq_some_iff.mp H
  obtain ⟨t131, A20, H⟩ := H
  replace H : (some (decide (t131 > 9000))) = some r := H
  have A2 := Aside0.mk A20
  clear A20
  obtain rfl := Option.some.inj H
  go_enter Try.func15, Try.ntmps15
  go_wp2_with (first | ((with_reducible refine gate_callee (f := 36) rfl ?_); refine goesL_ (some 4) rfl rfl Try.func36 (by kernel_rfl) rfl #[.slice A0 l0.length c0] rfl (by (try simp only [List.map_toArray, List.map_cons, List.map_nil]); first | done | rfl | (simp only [List.length_drop, List.length_take]; rfl)) ?_; (with_reducible refine (thresherlaw0_TextWeight.calls k _ _ l0 t131 _ ?side1 ?side2 A2.out).mono ?_); (case side1 => repeat (first | exact HR0.out | (with_reducible refine Kd.C_alloc ?_ _) | (with_reducible refine Kd.C_drewN ?_ _) | (with_reducible refine Kd.C_drew ?_))); (case side2 => exact HC0.out); rintro e w' ⟨rfl, ⟨nd, rfl⟩⟩; refine ⟨_, rfl, ?_⟩))
  go_ret
  exact ⟨by first | rfl | (simp; done) | (simp [*]; done), by repeat (first | exact Drawn0.refl _ | apply Drawn0.step)⟩

/-! ### num_Four: function 37 -/
def num_Four.f (a0 : Int) : Option (ByteArray) := some (strOfNums (([(a0 / 16777216) % 256, (a0 / 65536) % 256, (a0 / 256) % 256, (a0) % 256] : List Int)))
set_option maxHeartbeats 8000000 in
set_option maxRecDepth 100000 in
theorem num_Four.calls (a0 : Int) (r : ByteArray) (w : World) (h : num_Four.f a0 = some r) :
    Calls Try.prog 37 #[.int .u32 a0] w fun e w' => e = .returned (.string r) ∧ Below w.heap.size w w' := by
  have HB := Aside0.mk (Below.refl w.heap.size w)
  have H : (some (strOfNums (([(a0 / 16777216) % 256, (a0 / 65536) % 256, (a0 / 256) % 256, (a0) % 256] : List Int)))) = some r := h
  clear h
  obtain ⟨y132, hy132⟩ : ∃ y_ : List Int, y_ = (([(a0 / 16777216) % 256, (a0 / 65536) % 256, (a0 / 256) % 256, (a0) % 256] : List Int)) := ⟨_, rfl⟩
  replace H : (some (strOfNums y132)) = some r := by first | (rw [hy132]; with_reducible exact H) | (have H2_ := (Option.bind_some _ _).symm.trans H; rw [hy132]; with_reducible exact H2_) | (have H2_ := (Option.bind_some _ _).symm.trans H; with_reducible exact H2_) | with_reducible exact H | (rw [hy132]; exact H) | exact H
  have Ny132 := Aside0.mk hy132
  clear hy132
  obtain rfl := Option.some.inj H
  go_enter Try.func37, Try.ntmps37
  go_wp2_with (first | ((with_reducible refine gate_dst (N := 14) rfl ?_); refine Kd.R_lit (Kd.int .u8) _ 5 ?hg (N := 14) ?hd (xs := ([(a0 / 16777216) % 256, (a0 / 65536) % 256, (a0 / 256) % 256, (a0) % 256] : List Int)) (inner := [.int .u8 ((a0 / 16777216) % 256), .int .u8 ((a0 / 65536) % 256), .int .u8 ((a0 / 256) % 256), .int .u8 ((a0) % 256)]) (ok := fun _ => True) (okp := fun _ => True) ?hr ?hp (fun _ hk => hk) trivial (Below.refl _ _) (Nat.le_refl _) (by simp) ?_; (case hd => rfl); (case hg => rfl); (case hr => first | (go_simp; done) | (go_simp; rfl)); (case hp => exact (Reps.one (show Kd.M (Kd.int .u8) _ _ _ ((a0 / 16777216) % 256) [.int .u8 ((a0 / 16777216) % 256)] from rfl) (Reps.one (show Kd.M (Kd.int .u8) _ _ _ ((a0 / 65536) % 256) [.int .u8 ((a0 / 65536) % 256)] from rfl) (Reps.one (show Kd.M (Kd.int .u8) _ _ _ ((a0 / 256) % 256) [.int .u8 ((a0 / 256) % 256)] from rfl) (Reps.one (show Kd.M (Kd.int .u8) _ _ _ ((a0) % 256) [.int .u8 ((a0) % 256)] from rfl) (Reps.none _ _)))))); intro v133 w2 ho3 hb hg_ hnew_; clear hg_ hnew_; (first | rw [← Ny132.out] at ho3 | (simp only [Int.reduceToNat] at ho3; rw [← Ny132.out] at ho3)); have n0_ := Aside0.mk (Kd.R_lower ho3 (below_size (by repeat (first | (with_reducible first | exact HB.out | apply below_alloc | apply pw_below_drewN | apply below_drew1) | exact HB.out)))); have n1_ := Aside0.mk (below_step (by repeat (first | (with_reducible first | exact HB.out | apply below_alloc | apply pw_below_drewN | apply below_drew1) | exact HB.out)) hb); clear HB; have HO134 := n0_; have HB := n1_; clear n0_ n1_; clear hb ho3; have hcv4 := own_string (P := Try.prog) Try.underlying44 Try.underlying5 Try.underlying9 (Kd.own_of_R HO134.out)))
  go_ret
  exact ⟨by first | rfl | (simp [errW_none, errW_some] <;> rfl) | (simp [*, errW_none, errW_some] <;> rfl), by repeat (first | (with_reducible first | exact HB.out | apply below_alloc | apply pw_below_drewN | apply below_drew1) | exact HB.out)⟩

/-! ### sum_turn: function 49 -/
def sum_turn.f (a0 : Int) : Option (Int) := some (Go.bits .xor .u32 (a0 / 2) (Go.bits .and .u32 ((-(Go.bits .and .u32 a0 1)) % 4294967296) 3988292384))
set_option maxHeartbeats 8000000 in
set_option maxRecDepth 100000 in
theorem sum_turn.calls (a0 : Int) (r : Int) (w : World) (h : sum_turn.f a0 = some r) :
    Calls Try.prog 49 #[.int .u32 a0] w fun e w' => e = .returned (.int .u32 r) ∧ Drawn0 w w' := by
  have H : (some (Go.bits .xor .u32 (a0 / 2) (Go.bits .and .u32 ((-(Go.bits .and .u32 a0 1)) % 4294967296) 3988292384))) = some r := h
  clear h
  obtain rfl := Option.some.inj H
  go_enter Try.func49, Try.ntmps49
  go_wp2
  go_ret
  exact ⟨by first | rfl | (simp; done) | (simp [*]; done), by repeat (first | exact Drawn0.refl _ | apply Drawn0.step)⟩

/-! ### sum_Sum: function 38 -/
mutual
def sum_Sum.l0 : Nat → ByteArray → Int → Int → Int → Option (Int)
  | 0, _, _, _, _ => none
  | k + 1, x0, x3, x6, x7 => if x7 < x6 then (if 0 ≤ x7 then (if x7 < (x0.size : Int) then (sum_Sum.l1 k x0 (Go.bits .xor .u32 x3 ((bt x0 x7) % 4294967296)) x6 x7 0) else (none)) else (none)) else (some (Go.bits .xor .u32 4294967295 x3))
def sum_Sum.l1 : Nat → ByteArray → Int → Int → Int → Int → Option (Int)
  | 0, _, _, _, _, _ => none
  | k + 1, x0, x3, x6, x7, x16 => if x16 < 8 then ((sum_turn.f x3).bind fun t135 => (sum_Sum.l1 k x0 t135 x6 x7 (wrap64 (x16 + 1)))) else (sum_Sum.l0 k x0 x3 x6 (wrap64 (x7 + 1)))
end
def sum_Sum.f (k : Nat) (a0 : ByteArray) : Option (Int) := sum_Sum.l0 k a0 4294967295 (a0.size : Int) 0
theorem sum_Sum.mono_l : ∀ k, (∀ y0 y1 y2 y3, LeO (sum_Sum.l0 k y0 y1 y2 y3) (sum_Sum.l0 (k + 1) y0 y1 y2 y3)) ∧ (∀ y0 y1 y2 y3 y4, LeO (sum_Sum.l1 k y0 y1 y2 y3 y4) (sum_Sum.l1 (k + 1) y0 y1 y2 y3 y4))
  | 0 => ⟨fun _ _ _ _ r h => by simp [sum_Sum.l0] at h, fun _ _ _ _ _ r h => by simp [sum_Sum.l1] at h⟩
  | k + 1 => by
    obtain ⟨ih0, ih1⟩ := sum_Sum.mono_l k
    refine ⟨?_, ?_⟩
    · intro y0 y1 y2 y3
      unfold sum_Sum.l0
      repeat' first
      | (with_reducible exact ih0 _ _ _ _)
      | (with_reducible exact ih1 _ _ _ _ _)
      | (with_reducible exact LeO.refl _)
      | (with_reducible exact LeO.none _)
      | (with_reducible refine LeO.ite ?_ ?_)
      | (with_reducible refine LeO.bind ?_ (fun _ => ?_))
      | exact ih0 _ _ _ _
      | exact ih1 _ _ _ _ _
      | exact LeO.none _
      | refine LeO.ite ?_ ?_
      | refine LeO.bind ?_ (fun _ => ?_)
    · intro y0 y1 y2 y3 y4
      unfold sum_Sum.l1
      repeat' first
      | (with_reducible exact ih0 _ _ _ _)
      | (with_reducible exact ih1 _ _ _ _ _)
      | (with_reducible exact LeO.refl _)
      | (with_reducible exact LeO.none _)
      | (with_reducible refine LeO.ite ?_ ?_)
      | (with_reducible refine LeO.bind ?_ (fun _ => ?_))
      | exact ih0 _ _ _ _
      | exact ih1 _ _ _ _ _
      | exact LeO.none _
      | refine LeO.ite ?_ ?_
      | refine LeO.bind ?_ (fun _ => ?_)
theorem sum_Sum.mono : ∀ a0 k, LeO (sum_Sum.f k a0) (sum_Sum.f (k + 1) a0) := by
  intro a0 k
  obtain ⟨ih0, ih1⟩ := sum_Sum.mono_l k
  unfold sum_Sum.f
  repeat' first
      | (with_reducible exact ih0 _ _ _ _)
      | (with_reducible exact ih1 _ _ _ _ _)
      | (with_reducible exact LeO.refl _)
      | (with_reducible exact LeO.none _)
      | (with_reducible refine LeO.ite ?_ ?_)
      | (with_reducible refine LeO.bind ?_ (fun _ => ?_))
      | exact ih0 _ _ _ _
      | exact ih1 _ _ _ _ _
      | exact LeO.none _
      | refine LeO.ite ?_ ?_
      | refine LeO.bind ?_ (fun _ => ?_)
set_option maxHeartbeats 8000000 in
set_option maxRecDepth 100000 in
theorem sum_Sum.calls (k : Nat) (a0 : ByteArray) (r : Int) (w : World) (h : sum_Sum.f k a0 = some r) :
    Calls Try.prog 38 #[.string a0] w fun e w' => e = .returned (.int .u32 r) ∧ Drawn0 w w' := by
  have H : (sum_Sum.l0 k a0 4294967295 (a0.size : Int) 0) = some r := h
  clear h
  have H' := Aside0.mk H
  clear H
  go_enter Try.func38, Try.ntmps38
  go_wp2
  go_loopg [3, 7] k (fun kq v3 v7 w' => ∃ (x3_1 : Int) (x7_1 : Int), v3 = .int .u32 x3_1 ∧ v7 = .int .i64 x7_1 ∧ Aside0 (sum_Sum.l0 kq a0 x3_1 (a0.size : Int) x7_1 = some r) ∧ Aside0 (kq ≤ k) ∧ Drawn0 w w')
  case atStart => exact ⟨(4294967295), (0), (by first | rfl | (simp; done) | (simp [*]; done)), (by first | rfl | (simp; done) | (simp [*]; done)), H', ⟨Nat.le_refl _⟩, by repeat (first | exact Drawn0.refl _ | apply Drawn0.step)⟩
  case round =>
    clear H'
    obtain ⟨x3_1, x7_1, rfl, rfl, HA, HK1, ⟨m1, rfl⟩⟩ := hrel
    cases gk with
    | zero => exact absurd HA.out (by simp [sum_Sum.l0])
    | succ k1 =>
      have H := HA.out
      clear HA
      simp only [sum_Sum.l0] at H
      by_cases c2 : x7_1 < (a0.size : Int)
      · rw [if_pos c2] at H
        have c2b0 : decide (x7_1 < (a0.size : Int)) = true := decide_eq_true c2
        clear c2
        by_cases c3 : 0 ≤ x7_1
        · rw [if_pos c3] at H
          have c3b0 : decide (0 ≤ x7_1) = true := decide_eq_true c3
          clear c3
          by_cases c4 : x7_1 < (a0.size : Int)
          · rw [if_pos c4] at H
            have c4b0 : decide (x7_1 < (a0.size : Int)) = true := decide_eq_true c4
            clear c4
            have H' := Aside0.mk H
            clear H
            have p5 : 0 ≤ (x7_1 : Int) := of_decide_eq_true (by first | (with_reducible assumption) | assumption)
            have q5 : x7_1 < (a0.size : Int) := of_decide_eq_true (by first | (with_reducible assumption) | assumption)
            have hx5 := bt_at a0 x7_1
            replace p5 := eq_true p5
            replace q5 := eq_true q5
            go_wp2
            go_loopg [3, 16] k1 (fun kq v3 v16 w' => ∃ (x3_2 : Int) (x16_2 : Int), v3 = .int .u32 x3_2 ∧ v16 = .int .i64 x16_2 ∧ Aside0 (sum_Sum.l1 kq a0 x3_2 (a0.size : Int) x7_1 x16_2 = some r) ∧ Aside0 (kq ≤ k1) ∧ Drawn0 w w')
            case atStart => exact ⟨(Go.bits .xor .u32 x3_1 ((bt a0 x7_1) % 4294967296)), (0), (by first | rfl | (simp; done) | (simp [*]; done)), (by first | rfl | (simp; done) | (simp [*]; done)), H', ⟨Nat.le_refl _⟩, by repeat (first | exact Drawn0.refl _ | apply Drawn0.step)⟩
            case round =>
              clear H'
              (try clear c2); (try clear c2b0); (try clear p2); (try clear c3); (try clear c3b0); (try clear c4); (try clear c4b0); (try clear p5); (try clear q5); (try clear hx5); (try clear p5); (try clear q5)
              obtain ⟨x3_2, x16_2, rfl, rfl, HA, HK2, ⟨m2, rfl⟩⟩ := hrel
              cases gk with
              | zero => exact absurd HA.out (by simp [sum_Sum.l1])
              | succ k2 =>
                have H := HA.out
                clear HA
                simp only [sum_Sum.l1] at H
                by_cases c6 : x16_2 < 8
                · rw [if_pos c6] at H
                  have c6b0 : decide (x16_2 < 8) = true := decide_eq_true c6
                  clear c6
                  replace H := Option.bind_eq_some_iff.mp H
                  obtain ⟨t135, A70, H⟩ := H
                  replace H : (sum_Sum.l1 k2 a0 t135 (a0.size : Int) x7_1 (wrap64 (x16_2 + 1))) = some r := H
                  have A7 := Aside0.mk A70
                  clear A70
                  have H' := Aside0.mk H
                  clear H
                  go_wp2_with (first | ((with_reducible refine gate_callee (f := 49) rfl ?_); refine goesL_ (some 19) rfl rfl Try.func49 (by kernel_rfl) rfl #[.int .u32 x3_2] rfl (by (try simp only [List.map_toArray, List.map_cons, List.map_nil]); first | done | rfl | (simp only [List.length_drop, List.length_take]; rfl)) ?_; (with_reducible refine (sum_turn.calls x3_2 t135 _ A7.out).mono ?_); rintro e w' ⟨rfl, ⟨nd, rfl⟩⟩; refine ⟨_, rfl, ?_⟩))
                  go_roundg k2
                  case measure => have := HK1.out; have := HK2.out; omega
                  case rel => exact ⟨(t135), (wrap64 (x16_2 + 1)), (by first | rfl | (simp; done) | (simp [*]; done)), (by first | rfl | (simp; done) | (simp [*]; done)), H', ⟨by have := HK1.out; have := HK2.out; omega⟩, by repeat (first | exact Drawn0.refl _ | apply Drawn0.step)⟩
                · rw [if_neg c6] at H
                  have c6b0 : decide (x16_2 < 8) = false := decide_eq_false c6
                  clear c6
                  have H' := Aside0.mk H
                  clear H
                  go_wp2
                  go_roundg k2
                  case measure => have := HK1.out; have := HK2.out; omega
                  case rel => exact ⟨(x3_2), (wrap64 (x7_1 + 1)), (by first | rfl | (simp; done) | (simp [*]; done)), (by first | rfl | (simp; done) | (simp [*]; done)), H', ⟨by have := HK1.out; have := HK2.out; omega⟩, by repeat (first | exact Drawn0.refl _ | apply Drawn0.step)⟩
          · rw [if_neg c4] at H
            exact absurd H (by simp)
        · rw [if_neg c3] at H
          exact absurd H (by simp)
      · rw [if_neg c2] at H
        have c2b0 : decide (x7_1 < (a0.size : Int)) = false := decide_eq_false c2
        clear c2
        obtain rfl := Option.some.inj H
        go_wp2
        go_ret
        exact ⟨by first | rfl | (simp; done) | (simp [*]; done), by repeat (first | exact Drawn0.refl _ | apply Drawn0.step)⟩

/-! ### frame_Bytes: function 16 -/
def frame_Bytes.f (k : Nat) (a0 : ByteArray) : Option (ByteArray × Int) := if (a0.size : Int) > 32768 then (some ((⟨#[]⟩ : ByteArray), 2)) else ((num_Four.f (((a0.size : Int)) % 4294967296)).bind fun t136 => (if t136.size + a0.size ≤ 9223372036854775807 then ((sum_Sum.f k (t136 ++ a0)).bind fun t137 => ((num_Four.f t137).bind fun t138 => (if t136.size + t138.size ≤ 9223372036854775807 then (if t136.size + t138.size + a0.size ≤ 9223372036854775807 then (some ((t136 ++ t138) ++ a0, 0)) else (none)) else (none)))) else (none)))
theorem frame_Bytes.mono : ∀ a0 k, LeO (frame_Bytes.f k a0) (frame_Bytes.f (k + 1) a0) := by
  intro a0 k
  unfold frame_Bytes.f
  repeat' first
      | (with_reducible exact sum_Sum.mono _ _)
      | (with_reducible exact LeO.refl _)
      | (with_reducible exact LeO.none _)
      | (with_reducible refine LeO.ite ?_ ?_)
      | (with_reducible refine LeO.bind ?_ (fun _ => ?_))
      | exact sum_Sum.mono _ _
      | exact LeO.none _
      | refine LeO.ite ?_ ?_
      | refine LeO.bind ?_ (fun _ => ?_)
set_option maxHeartbeats 8000000 in
set_option maxRecDepth 100000 in
theorem frame_Bytes.calls (k : Nat) (a0 : ByteArray) (r1 : ByteArray) (r2 : Int) (w : World) (h : frame_Bytes.f k a0 = some (r1, r2)) :
    Calls Try.prog 16 #[.string a0] w fun e w' => e = .returned (.tuple #[.string r1, .int .i64 r2]) ∧ Below w.heap.size w w' := by
  have HB := Aside0.mk (Below.refl w.heap.size w)
  have H : (if (a0.size : Int) > 32768 then (some ((⟨#[]⟩ : ByteArray), 2)) else ((num_Four.f (((a0.size : Int)) % 4294967296)).bind fun t136 => (if t136.size + a0.size ≤ 9223372036854775807 then ((sum_Sum.f k (t136 ++ a0)).bind fun t137 => ((num_Four.f t137).bind fun t138 => (if t136.size + t138.size ≤ 9223372036854775807 then (if t136.size + t138.size + a0.size ≤ 9223372036854775807 then (some ((t136 ++ t138) ++ a0, 0)) else (none)) else (none)))) else (none)))) = some (r1, r2) := h
  clear h
  by_cases c2 : (a0.size : Int) > 32768
  · rw [if_pos c2] at H
    have c2b0 : decide (32768 < (a0.size : Int)) = true := decide_eq_true c2
    have c2b1 : decide (32768 < a0.size) = true := decide_eq_true (by omega)
    clear c2
    simp only [Option.some.injEq, Prod.mk.injEq] at H
    obtain ⟨rfl, rfl⟩ := H
    go_enter Try.func16, Try.ntmps16
    go_wp2
    go_ret2
    exact ⟨by first | rfl | (simp [errW_none, errW_some] <;> rfl) | (simp [*, errW_none, errW_some] <;> rfl), by repeat (first | (with_reducible first | exact HB.out | apply below_alloc | apply pw_below_drewN | apply below_drew1) | exact HB.out)⟩
  · rw [if_neg c2] at H
    have c2b0 : decide (32768 < (a0.size : Int)) = false := decide_eq_false c2
    have c2b1 : decide (32768 < a0.size) = false := decide_eq_false (by omega)
    clear c2
    replace H := Option.bind_eq_some_iff.mp H
    obtain ⟨t136, A30, H⟩ := H
    replace H : (if t136.size + a0.size ≤ 9223372036854775807 then ((sum_Sum.f k (t136 ++ a0)).bind fun t137 => ((num_Four.f t137).bind fun t138 => (if t136.size + t138.size ≤ 9223372036854775807 then (if t136.size + t138.size + a0.size ≤ 9223372036854775807 then (some ((t136 ++ t138) ++ a0, 0)) else (none)) else (none)))) else (none)) = some (r1, r2) := H
    have A3 := Aside0.mk A30
    clear A30
    by_cases c4 : t136.size + a0.size ≤ 9223372036854775807
    · rw [if_pos c4] at H
      have c4b0 := eq_true c4
      have c4b1 : decide (t136.size + a0.size ≤ 9223372036854775807) = true := decide_eq_true c4
      try have c4b2 : (9223372036854775807 < t136.size + a0.size) = False := eq_false (Nat.not_lt.2 c4)
      replace H := Option.bind_eq_some_iff.mp H
      obtain ⟨t137, A50, H⟩ := H
      replace H : ((num_Four.f t137).bind fun t138 => (if t136.size + t138.size ≤ 9223372036854775807 then (if t136.size + t138.size + a0.size ≤ 9223372036854775807 then (some ((t136 ++ t138) ++ a0, 0)) else (none)) else (none))) = some (r1, r2) := H
      have A5 := Aside0.mk A50
      clear A50
      replace H := Option.bind_eq_some_iff.mp H
      obtain ⟨t138, A60, H⟩ := H
      replace H : (if t136.size + t138.size ≤ 9223372036854775807 then (if t136.size + t138.size + a0.size ≤ 9223372036854775807 then (some ((t136 ++ t138) ++ a0, 0)) else (none)) else (none)) = some (r1, r2) := H
      have A6 := Aside0.mk A60
      clear A60
      by_cases c7 : t136.size + t138.size ≤ 9223372036854775807
      · rw [if_pos c7] at H
        have c7b0 := eq_true c7
        have c7b1 : decide (t136.size + t138.size ≤ 9223372036854775807) = true := decide_eq_true c7
        try have c7b2 : (9223372036854775807 < t136.size + t138.size) = False := eq_false (Nat.not_lt.2 c7)
        by_cases c8 : t136.size + t138.size + a0.size ≤ 9223372036854775807
        · rw [if_pos c8] at H
          have c8b0 := eq_true c8
          have c8b1 : decide (t136.size + t138.size + a0.size ≤ 9223372036854775807) = true := decide_eq_true c8
          try have c8b2 : (9223372036854775807 < t136.size + t138.size + a0.size) = False := eq_false (Nat.not_lt.2 c8)
          simp only [Option.some.injEq, Prod.mk.injEq] at H
          obtain ⟨rfl, rfl⟩ := H
          go_enter Try.func16, Try.ntmps16
          go_wp2_with (first | ((with_reducible refine gate_callee (f := 37) rfl ?_); refine goesL_ (some 11) rfl rfl Try.func37 (by kernel_rfl) rfl #[.int .u32 (((a0.size : Int)) % 4294967296)] rfl (by (try simp only [List.map_toArray, List.map_cons, List.map_nil]); first | done | rfl | (simp only [List.length_drop, List.length_take]; rfl)) ?_; (with_reducible refine (num_Four.calls (((a0.size : Int)) % 4294967296) t136 _ A3.out).mono ?_); rintro e w9 ⟨rfl, hb⟩; refine ⟨_, rfl, ?_⟩; have n0_ := Aside0.mk (below_step (by repeat (first | (with_reducible first | exact HB.out | apply below_alloc | apply pw_below_drewN | apply below_drew1) | exact HB.out)) hb); clear HB; have HB := n0_; clear n0_; (try clear hb); (try clear hb2); (try clear hk); (try clear hi)) | ((with_reducible refine gate_callee (f := 38) rfl ?_); refine goesL_ (some 16) rfl rfl Try.func38 (by kernel_rfl) rfl #[.string (t136 ++ a0)] rfl (by (try simp only [List.map_toArray, List.map_cons, List.map_nil]); first | done | rfl | (simp only [List.length_drop, List.length_take]; rfl)) ?_; (with_reducible refine (sum_Sum.calls k (t136 ++ a0) t137 _ A5.out).mono ?_); rintro e w' ⟨rfl, ⟨nd, rfl⟩⟩; refine ⟨_, rfl, ?_⟩) | ((with_reducible refine gate_callee (f := 37) rfl ?_); refine goesL_ (some 17) rfl rfl Try.func37 (by kernel_rfl) rfl #[.int .u32 t137] rfl (by (try simp only [List.map_toArray, List.map_cons, List.map_nil]); first | done | rfl | (simp only [List.length_drop, List.length_take]; rfl)) ?_; (with_reducible refine (num_Four.calls t137 t138 _ A6.out).mono ?_); rintro e w10 ⟨rfl, hb⟩; refine ⟨_, rfl, ?_⟩; have n0_ := Aside0.mk (below_step (by repeat (first | (with_reducible first | exact HB.out | apply below_alloc | apply pw_below_drewN | apply below_drew1) | exact HB.out)) hb); clear HB; have HB := n0_; clear n0_; (try clear hb); (try clear hb2); (try clear hk); (try clear hi)))
          go_ret2
          exact ⟨by first | rfl | (simp [errW_none, errW_some] <;> rfl) | (simp [*, errW_none, errW_some] <;> rfl), by repeat (first | (with_reducible first | exact HB.out | apply below_alloc | apply pw_below_drewN | apply below_drew1) | exact HB.out)⟩
        · rw [if_neg c8] at H
          exact absurd H (by simp)
      · rw [if_neg c7] at H
        exact absurd H (by simp)
    · rw [if_neg c4] at H
      exact absurd H (by simp)

/-! ### thresherlaw5_num: function 17 -/
def thresherlaw5_num.f (a0 : Int) : Option (Int) := some a0
set_option maxHeartbeats 8000000 in
set_option maxRecDepth 100000 in
theorem thresherlaw5_num.calls (a0 : Int) (r : Int) (w : World) (h : thresherlaw5_num.f a0 = some r) :
    Calls Try.prog 17 #[.int .i64 a0] w fun e w' => e = .returned (.int .i64 r) ∧ Drawn0 w w' := by
  have H : (some a0) = some r := h
  clear h
  obtain rfl := Option.some.inj H
  go_enter Try.func17, Try.ntmps17
  go_wp2
  go_ret
  exact ⟨by first | rfl | (simp; done) | (simp [*]; done), by repeat (first | exact Drawn0.refl _ | apply Drawn0.step)⟩

/-! ### thresherref1_Four: function 39 -/
def thresherref1_Four.f (a0 : Int) : Option (ByteArray) := some (strOfNums (([(a0 / 16777216) % 256, (a0 / 65536) % 256, (a0 / 256) % 256, (a0) % 256] : List Int)))
set_option maxHeartbeats 8000000 in
set_option maxRecDepth 100000 in
theorem thresherref1_Four.calls (a0 : Int) (r : ByteArray) (w : World) (h : thresherref1_Four.f a0 = some r) :
    Calls Try.prog 39 #[.int .u32 a0] w fun e w' => e = .returned (.string r) ∧ Below w.heap.size w w' := by
  have HB := Aside0.mk (Below.refl w.heap.size w)
  have H : (some (strOfNums (([(a0 / 16777216) % 256, (a0 / 65536) % 256, (a0 / 256) % 256, (a0) % 256] : List Int)))) = some r := h
  clear h
  obtain ⟨y139, hy139⟩ : ∃ y_ : List Int, y_ = (([(a0 / 16777216) % 256, (a0 / 65536) % 256, (a0 / 256) % 256, (a0) % 256] : List Int)) := ⟨_, rfl⟩
  replace H : (some (strOfNums y139)) = some r := by first | (rw [hy139]; with_reducible exact H) | (have H2_ := (Option.bind_some _ _).symm.trans H; rw [hy139]; with_reducible exact H2_) | (have H2_ := (Option.bind_some _ _).symm.trans H; with_reducible exact H2_) | with_reducible exact H | (rw [hy139]; exact H) | exact H
  have Ny139 := Aside0.mk hy139
  clear hy139
  obtain rfl := Option.some.inj H
  go_enter Try.func39, Try.ntmps39
  go_wp2_with (first | ((with_reducible refine gate_dst (N := 14) rfl ?_); refine Kd.R_lit (Kd.int .u8) _ 5 ?hg (N := 14) ?hd (xs := ([(a0 / 16777216) % 256, (a0 / 65536) % 256, (a0 / 256) % 256, (a0) % 256] : List Int)) (inner := [.int .u8 ((a0 / 16777216) % 256), .int .u8 ((a0 / 65536) % 256), .int .u8 ((a0 / 256) % 256), .int .u8 ((a0) % 256)]) (ok := fun _ => True) (okp := fun _ => True) ?hr ?hp (fun _ hk => hk) trivial (Below.refl _ _) (Nat.le_refl _) (by simp) ?_; (case hd => rfl); (case hg => rfl); (case hr => first | (go_simp; done) | (go_simp; rfl)); (case hp => exact (Reps.one (show Kd.M (Kd.int .u8) _ _ _ ((a0 / 16777216) % 256) [.int .u8 ((a0 / 16777216) % 256)] from rfl) (Reps.one (show Kd.M (Kd.int .u8) _ _ _ ((a0 / 65536) % 256) [.int .u8 ((a0 / 65536) % 256)] from rfl) (Reps.one (show Kd.M (Kd.int .u8) _ _ _ ((a0 / 256) % 256) [.int .u8 ((a0 / 256) % 256)] from rfl) (Reps.one (show Kd.M (Kd.int .u8) _ _ _ ((a0) % 256) [.int .u8 ((a0) % 256)] from rfl) (Reps.none _ _)))))); intro v140 w2 ho3 hb hg_ hnew_; clear hg_ hnew_; (first | rw [← Ny139.out] at ho3 | (simp only [Int.reduceToNat] at ho3; rw [← Ny139.out] at ho3)); have n0_ := Aside0.mk (Kd.R_lower ho3 (below_size (by repeat (first | (with_reducible first | exact HB.out | apply below_alloc | apply pw_below_drewN | apply below_drew1) | exact HB.out)))); have n1_ := Aside0.mk (below_step (by repeat (first | (with_reducible first | exact HB.out | apply below_alloc | apply pw_below_drewN | apply below_drew1) | exact HB.out)) hb); clear HB; have HO141 := n0_; have HB := n1_; clear n0_ n1_; clear hb ho3; have hcv4 := own_string (P := Try.prog) Try.underlying44 Try.underlying5 Try.underlying9 (Kd.own_of_R HO141.out)))
  go_ret
  exact ⟨by first | rfl | (simp [errW_none, errW_some] <;> rfl) | (simp [*, errW_none, errW_some] <;> rfl), by repeat (first | (with_reducible first | exact HB.out | apply below_alloc | apply pw_below_drewN | apply below_drew1) | exact HB.out)⟩

end Go.Proofs.Ytjnlmcpcdgfpkaa.Q
