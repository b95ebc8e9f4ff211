/- Contracts of the Go functions that these laws reach: each call answers what the plain Lean function beside it says. Written by a program of this session (pp.py). -/
import Derived.Test.YtjnlmcpcdgfpkaaQ0
import Derived.Test.YtjnlmcpcdgfpkaaQ2
import Derived.Test.YtjnlmcpcdgfpkaaQ3
import Derived.Test.YtjnlmcpcdgfpkaaQ8
namespace Go.Proofs.Ytjnlmcpcdgfpkaa.Q
open Go.RowKit Go.Proofs.YtjnlmcpcdgfpkaaW.PrintWords Go.Proofs.YtjnlmcpcdgfpkaaW.PrintLast Go.Proofs.YtjnlmcpcdgfpkaaW.PrintMore
attribute [local go_sem] max2_int min2_int max_two min_two max_three min_three max_four min_four   -- for this text's walks alone
set_option linter.unusedVariables false
set_option linter.unusedSimpArgs false

/-! ### thresherref15_EntBytes: function 29 -/
def thresherref15_EntBytes.f (k : Nat) (a0_0 : Int) (a0_1 : Int) (a0_2 : Int) (a0_3 : Int) (a0_4 : ByteArray) : Option (ByteArray) := (thresherref15_num.f k a0_0).bind fun t258 => ((thresherref15_num.f k a0_1).bind fun t259 => (if t258.size + t259.size ≤ 9223372036854775807 then ((thresherref15_num.f k a0_2).bind fun t260 => (if t258.size + t259.size + t260.size ≤ 9223372036854775807 then ((thresherref15_num.f k a0_3).bind fun t261 => (if t258.size + t259.size + t260.size + t261.size ≤ 9223372036854775807 then (if t258.size + t259.size + t260.size + t261.size + a0_4.size ≤ 9223372036854775807 then (some ((((t258 ++ t259) ++ t260) ++ t261) ++ a0_4)) else (none)) else (none))) else (none))) else (none)))
theorem thresherref15_EntBytes.mono : ∀ a0 a1 a2 a3 a4 k, LeO (thresherref15_EntBytes.f k a0 a1 a2 a3 a4) (thresherref15_EntBytes.f (k + 1) a0 a1 a2 a3 a4) := by
  intro a0 a1 a2 a3 a4 k
  unfold thresherref15_EntBytes.f
  repeat' first
      | (with_reducible exact thresherref15_num.mono _ _)
      | (with_reducible exact LeO.refl _)
      | (with_reducible exact LeO.none _)
      | (with_reducible refine LeO.ite ?_ ?_)
      | (with_reducible refine LeO.bind ?_ (fun _ => ?_))
      | exact thresherref15_num.mono _ _
      | exact LeO.none _
      | refine LeO.ite ?_ ?_
      | refine LeO.bind ?_ (fun _ => ?_)
def thresherref15_EntBytes.T1 : Bool × List (List Nat × List Nat) := (true, [([], []), ([0], [0]), ([1], [1]), ([], []), ([3], [3]), ([4, 2], [4]), ([2, 5], [2, 5]), ([], []), ([7], [7]), ([8, 5], [8]), ([6, 9], [6, 9]), ([], []), ([11], [11]), ([12, 9], [12]), ([10, 13], [10, 13]), ([], []), ([15], [15]), ([14, 16], [14, 16]), ([17, 13, 0, 1, 2, 3, 4, 5, 6, 7, 8, 9, 10, 11, 12, 13, 14, 15, 16, 17], [17])])
def thresherref15_EntBytes.B1 : List Nat := [0, 1, 3, 0, 8, 31, 63, 0, 128, 447, 1023, 0, 2048, 7103, 16383, 0, 32768, 131071, 262143]
theorem thresherref15_EntBytes.tab1 : rtab .any (opsOf Try.f29 1) = thresherref15_EntBytes.T1 := by kernel_rfl
theorem thresherref15_EntBytes.bits1 : waitsOk thresherref15_EntBytes.T1.2 thresherref15_EntBytes.B1 = true := by kernel_rfl
set_option maxHeartbeats 8000000 in
set_option maxRecDepth 100000 in
theorem thresherref15_EntBytes.calls (k : Nat) (a0_0 : Int) (a0_1 : Int) (a0_2 : Int) (a0_3 : Int) (a0_4 : ByteArray) (r : ByteArray) (w : World) (h : thresherref15_EntBytes.f k a0_0 a0_1 a0_2 a0_3 a0_4 = some r) :
    Calls Try.prog 29 #[.agg #[.int .i64 a0_0, .int .i64 a0_1, .int .i64 a0_2, .int .i64 a0_3, .string a0_4]] w fun e w' => e = .returned (.string r) ∧ Below w.heap.size w w' := by
  have hu26 := Try.underlying26
  have HB := Aside0.mk (Below.refl w.heap.size w)
  have H : ((thresherref15_num.f k a0_0).bind fun t258 => ((thresherref15_num.f k a0_1).bind fun t259 => (if t258.size + t259.size ≤ 9223372036854775807 then ((thresherref15_num.f k a0_2).bind fun t260 => (if t258.size + t259.size + t260.size ≤ 9223372036854775807 then ((thresherref15_num.f k a0_3).bind fun t261 => (if t258.size + t259.size + t260.size + t261.size ≤ 9223372036854775807 then (if t258.size + t259.size + t260.size + t261.size + a0_4.size ≤ 9223372036854775807 then (some ((((t258 ++ t259) ++ t260) ++ t261) ++ a0_4)) else (none)) else (none))) else (none))) else (none)))) = some r := h
  clear h
  replace H := Option.bind_eq_some_iff.mp H
  obtain ⟨t258, A20, H⟩ := H
  replace H : ((thresherref15_num.f k a0_1).bind fun t259 => (if t258.size + t259.size ≤ 9223372036854775807 then ((thresherref15_num.f k a0_2).bind fun t260 => (if t258.size + t259.size + t260.size ≤ 9223372036854775807 then ((thresherref15_num.f k a0_3).bind fun t261 => (if t258.size + t259.size + t260.size + t261.size ≤ 9223372036854775807 then (if t258.size + t259.size + t260.size + t261.size + a0_4.size ≤ 9223372036854775807 then (some ((((t258 ++ t259) ++ t260) ++ t261) ++ a0_4)) else (none)) else (none))) else (none))) else (none))) = some r := H
  have A2 := Aside0.mk A20
  clear A20
  replace H := Option.bind_eq_some_iff.mp H
  obtain ⟨t259, A30, H⟩ := H
  replace H : (if t258.size + t259.size ≤ 9223372036854775807 then ((thresherref15_num.f k a0_2).bind fun t260 => (if t258.size + t259.size + t260.size ≤ 9223372036854775807 then ((thresherref15_num.f k a0_3).bind fun t261 => (if t258.size + t259.size + t260.size + t261.size ≤ 9223372036854775807 then (if t258.size + t259.size + t260.size + t261.size + a0_4.size ≤ 9223372036854775807 then (some ((((t258 ++ t259) ++ t260) ++ t261) ++ a0_4)) else (none)) else (none))) else (none))) else (none)) = some r := H
  have A3 := Aside0.mk A30
  clear A30
  by_cases c4 : t258.size + t259.size ≤ 9223372036854775807
  · rw [if_pos c4] at H
    have c4b0 := eq_true c4
    have c4b1 : decide (t258.size + t259.size ≤ 9223372036854775807) = true := decide_eq_true c4
    try have c4b2 : (9223372036854775807 < t258.size + t259.size) = False := eq_false (Nat.not_lt.2 c4)
    replace H := Option.bind_eq_some_iff.mp H
    obtain ⟨t260, A50, H⟩ := H
    replace H : (if t258.size + t259.size + t260.size ≤ 9223372036854775807 then ((thresherref15_num.f k a0_3).bind fun t261 => (if t258.size + t259.size + t260.size + t261.size ≤ 9223372036854775807 then (if t258.size + t259.size + t260.size + t261.size + a0_4.size ≤ 9223372036854775807 then (some ((((t258 ++ t259) ++ t260) ++ t261) ++ a0_4)) else (none)) else (none))) else (none)) = some r := H
    have A5 := Aside0.mk A50
    clear A50
    by_cases c6 : t258.size + t259.size + t260.size ≤ 9223372036854775807
    · rw [if_pos c6] at H
      have c6b0 := eq_true c6
      have c6b1 : decide (t258.size + t259.size + t260.size ≤ 9223372036854775807) = true := decide_eq_true c6
      try have c6b2 : (9223372036854775807 < t258.size + t259.size + t260.size) = False := eq_false (Nat.not_lt.2 c6)
      replace H := Option.bind_eq_some_iff.mp H
      obtain ⟨t261, A70, H⟩ := H
      replace H : (if t258.size + t259.size + t260.size + t261.size ≤ 9223372036854775807 then (if t258.size + t259.size + t260.size + t261.size + a0_4.size ≤ 9223372036854775807 then (some ((((t258 ++ t259) ++ t260) ++ t261) ++ a0_4)) else (none)) else (none)) = some r := H
      have A7 := Aside0.mk A70
      clear A70
      by_cases c8 : t258.size + t259.size + t260.size + t261.size ≤ 9223372036854775807
      · rw [if_pos c8] at H
        have c8b0 := eq_true c8
        have c8b1 : decide (t258.size + t259.size + t260.size + t261.size ≤ 9223372036854775807) = true := decide_eq_true c8
        try have c8b2 : (9223372036854775807 < t258.size + t259.size + t260.size + t261.size) = False := eq_false (Nat.not_lt.2 c8)
        by_cases c9 : t258.size + t259.size + t260.size + t261.size + a0_4.size ≤ 9223372036854775807
        · rw [if_pos c9] at H
          have c9b0 := eq_true c9
          have c9b1 : decide (t258.size + t259.size + t260.size + t261.size + a0_4.size ≤ 9223372036854775807) = true := decide_eq_true c9
          try have c9b2 : (9223372036854775807 < t258.size + t259.size + t260.size + t261.size + a0_4.size) = False := eq_false (Nat.not_lt.2 c9)
          obtain rfl := Option.some.inj H
          go_enter Try.func29, Try.ntmps29
          try go_wp2_with (first | ((with_reducible refine gate_dst (N := 1) rfl ?_); refine box_event ?hg (N := 1) ?hd (cs := #[.int .i64 a0_0, .int .i64 a0_1, .int .i64 a0_2, .int .i64 a0_3, .string a0_4]) (t := 26) ?hr ?_; (case hd => rfl); (case hg => rfl); (case hr => first | (go_simp; done) | (go_simp; rfl)); intro gb257 hg w10 hbox hb; have n0_ := Aside0.mk (below_step (by repeat (first | (with_reducible first | exact HB.out | apply below_alloc | apply pw_below_drewN | apply below_drew1) | exact HB.out)) hb); have n1_ := Aside0.mk (hbox); have n2_ := Aside0.mk ((by rw [hg]; exact (below_size (by repeat (first | (with_reducible first | exact HB.out | apply below_alloc | apply pw_below_drewN | apply below_drew1) | exact HB.out))) : w.heap.size ≤ gb257)); have n3_ := Aside0.mk ((by rw [hg]; exact (below_size (by repeat (first | (with_reducible first | exact HB.out | apply below_alloc | apply pw_below_drewN | apply below_drew1) | exact HB.out))) : w.heap.size ≤ gb257)); clear HB; have HB := n0_; have BK257 := n1_; have GW257 := n2_; have GE257 := n3_; clear n0_ n1_ n2_ n3_; clear hb hbox hg))
          have n0_ := Aside0.mk (blk_drew BK257.out)
          have n1_ := Aside0.mk (below_drew1 HB.out)
          clear BK257
          clear HB
          have BK257 := n0_
          have HB := n1_
          clear n0_ n1_
          refine start_ (n := 19) (S := fun w' => w'.cell? ⟨gb257, 0, none⟩ = some (.int .i64 a0_0) ∧ w'.cell? ⟨gb257, 1, none⟩ = some (.int .i64 a0_1) ∧ w'.cell? ⟨gb257, 2, none⟩ = some (.int .i64 a0_2) ∧ w'.cell? ⟨gb257, 3, none⟩ = some (.int .i64 a0_3) ∧ w'.cell? ⟨gb257, 4, none⟩ = some (.string a0_4)) (ds := []) #[false, false, false, false, false, false, false, false, false, false, false, false, false, false, false, false, false, false, false] (by kernel_rfl) rfl rfl ⟨(blk_cell BK257.out 0).trans rfl, (blk_cell BK257.out 1).trans rfl, (blk_cell BK257.out 2).trans rfl, (blk_cell BK257.out 3).trans rfl, (blk_cell BK257.out 4).trans rfl⟩ (fun hHeld => ?_); refine with_tabW thresherref15_EntBytes.tab1 thresherref15_EntBytes.bits1 (fun HT_ HW_ => ?_)
          generalize w10.drew = w11 at BK257 HB hHeld ⊢
          refine pure_ (i := 0) (N := some 3) (v := ?_) (a' := ?_) #[true, false, false, false, false, false, false, false, false, false, false, false, false, false, false, false, false, false, false] rfl rfl (any_of HT_.out (by kernel_rfl)) (fun _ _ _ h => h) (Or.inl ⟨by rfl, ?_⟩) ?_ ?_
          rotate_left
          · intro w'
            go_simp
            with_reducible rfl
          rotate_left
          · simp only [Act.put, List.setIfInBounds_toArray, List.set_cons_zero, List.set_cons_succ, i64_w, i32_w]
            rfl
          refine pure_ (i := 3) (N := some 6) (v := ?_) (a' := ?_) #[true, false, false, true, false, false, false, false, false, false, false, false, false, false, false, false, false, false, false] rfl rfl (any_of HT_.out (by kernel_rfl)) (fun _ _ _ h => h) (Or.inl ⟨by rfl, ?_⟩) ?_ ?_
          rotate_left
          · intro w'
            go_simp
            with_reducible rfl
          rotate_left
          · simp only [Act.put, List.setIfInBounds_toArray, List.set_cons_zero, List.set_cons_succ, i64_w, i32_w]
            rfl
          refine pure_ (i := 7) (N := some 10) (v := ?_) (a' := ?_) #[true, false, false, true, false, false, false, true, false, false, false, false, false, false, false, false, false, false, false] rfl rfl (any_of HT_.out (by kernel_rfl)) (fun _ _ _ h => h) (Or.inl ⟨by rfl, ?_⟩) ?_ ?_
          rotate_left
          · intro w'
            go_simp
            with_reducible rfl
          rotate_left
          · simp only [Act.put, List.setIfInBounds_toArray, List.set_cons_zero, List.set_cons_succ, i64_w, i32_w]
            rfl
          refine pure_ (i := 11) (N := some 14) (v := ?_) (a' := ?_) #[true, false, false, true, false, false, false, true, false, false, false, true, false, false, false, false, false, false, false] rfl rfl (any_of HT_.out (by kernel_rfl)) (fun _ _ _ h => h) (Or.inl ⟨by rfl, ?_⟩) ?_ ?_
          rotate_left
          · intro w'
            go_simp
            with_reducible rfl
          rotate_left
          · simp only [Act.put, List.setIfInBounds_toArray, List.set_cons_zero, List.set_cons_succ, i64_w, i32_w]
            rfl
          refine pure_ (i := 15) (N := some 18) (v := ?_) (a' := ?_) #[true, false, false, true, false, false, false, true, false, false, false, true, false, false, false, true, false, false, false] rfl rfl (any_of HT_.out (by kernel_rfl)) (fun _ _ _ h => h) (Or.inl ⟨by rfl, ?_⟩) ?_ ?_
          rotate_left
          · intro w'
            go_simp
            with_reducible rfl
          rotate_left
          · simp only [Act.put, List.setIfInBounds_toArray, List.set_cons_zero, List.set_cons_succ, i64_w, i32_w]
            rfl
          refine take_ (i := 1) (N := some 4) (v := ?_) (a' := ?_) #[true, true, false, true, false, false, false, true, false, false, false, true, false, false, false, true, false, false, false] rfl rfl (take_ofW HT_.out HW_.out (by kernel_rfl)) (fun _ _ _ h => h) (Or.inl ⟨by rfl, ?_⟩) hHeld ?_ ?_
          rotate_left
          · rintro w' ⟨s0, s1, s2, s3, s4⟩
            go_simp
            with_reducible rfl
          rotate_left
          · simp only [Act.put, List.setIfInBounds_toArray, List.set_cons_zero, List.set_cons_succ, i64_w, i32_w]
            rfl
          refine take_ (i := 4) (N := some 7) (v := ?_) (a' := ?_) #[true, true, false, true, true, false, false, true, false, false, false, true, false, false, false, true, false, false, false] rfl rfl (take_ofW HT_.out HW_.out (by kernel_rfl)) (fun _ _ _ h => h) (Or.inl ⟨by rfl, ?_⟩) hHeld ?_ ?_
          rotate_left
          · rintro w' ⟨s0, s1, s2, s3, s4⟩
            go_simp
            with_reducible rfl
          rotate_left
          · simp only [Act.put, List.setIfInBounds_toArray, List.set_cons_zero, List.set_cons_succ, i64_w, i32_w]
            rfl
          refine take_ (i := 8) (N := some 11) (v := ?_) (a' := ?_) #[true, true, false, true, true, false, false, true, true, false, false, true, false, false, false, true, false, false, false] rfl rfl (take_ofW HT_.out HW_.out (by kernel_rfl)) (fun _ _ _ h => h) (Or.inl ⟨by rfl, ?_⟩) hHeld ?_ ?_
          rotate_left
          · rintro w' ⟨s0, s1, s2, s3, s4⟩
            go_simp
            with_reducible rfl
          rotate_left
          · simp only [Act.put, List.setIfInBounds_toArray, List.set_cons_zero, List.set_cons_succ, i64_w, i32_w]
            rfl
          refine take_ (i := 12) (N := some 15) (v := ?_) (a' := ?_) #[true, true, false, true, true, false, false, true, true, false, false, true, true, false, false, true, false, false, false] rfl rfl (take_ofW HT_.out HW_.out (by kernel_rfl)) (fun _ _ _ h => h) (Or.inl ⟨by rfl, ?_⟩) hHeld ?_ ?_
          rotate_left
          · rintro w' ⟨s0, s1, s2, s3, s4⟩
            go_simp
            with_reducible rfl
          rotate_left
          · simp only [Act.put, List.setIfInBounds_toArray, List.set_cons_zero, List.set_cons_succ, i64_w, i32_w]
            rfl
          refine take_ (i := 16) (N := some 19) (v := ?_) (a' := ?_) #[true, true, false, true, true, false, false, true, true, false, false, true, true, false, false, true, true, false, false] rfl rfl (take_ofW HT_.out HW_.out (by kernel_rfl)) (fun _ _ _ h => h) (Or.inl ⟨by rfl, ?_⟩) hHeld ?_ ?_
          rotate_left
          · rintro w' ⟨s0, s1, s2, s3, s4⟩
            go_simp
            with_reducible rfl
          rotate_left
          · simp only [Act.put, List.setIfInBounds_toArray, List.set_cons_zero, List.set_cons_succ, i64_w, i32_w]
            rfl
          refine one_ (i := 2) (N := some 5) #[true, true, true, true, true, false, false, true, true, false, false, true, true, false, false, true, true, false, false] rfl rfl (one_of HT_.out (by kernel_rfl)) (by decide) (fun K hK => ?_)
          refine goes_ Try.func46 (by kernel_rfl) rfl #[.int .i64 a0_0] (by rfl) rfl rfl (by (try simp only [List.map_toArray, List.map_cons, List.map_nil]); first | done | rfl | (simp only [List.length_drop, List.length_take]; rfl)) ?_
          with_reducible refine (thresherref15_num.calls k a0_0 t258 _ A2.out).mono ?_
          rintro e w12 ⟨rfl, hb⟩
          refine ⟨_, rfl, ?_⟩
          have n0_ := Aside0.mk (blk_below (g := gb257) (o := .cells #[.int .i64 a0_0, .int .i64 a0_1, .int .i64 a0_2, .int .i64 a0_3, .string a0_4] 26 (0, 0)) (by (with_reducible repeat (first | refine blk_drewN ?_ _ | refine blk_drew ?_ | refine blk_alloc ?_ _)); exact BK257.out) hb)
          have n1_ := Aside0.mk (below_step (by repeat (first | (with_reducible first | exact HB.out | apply below_alloc | apply pw_below_drewN | apply below_drew1 | refine below_set ?_ GE257.out) | exact HB.out)) hb)
          clear BK257
          clear HB
          have BK257 := n0_
          have HB := n1_
          clear n0_ n1_
          (try clear hb)
          (try clear hb2)
          (try clear hk)
          (try clear hi)
          refine hK.out _ _ ⟨(blk_cell BK257.out 0).trans rfl, (blk_cell BK257.out 1).trans rfl, (blk_cell BK257.out 2).trans rfl, (blk_cell BK257.out 3).trans rfl, (blk_cell BK257.out 4).trans rfl⟩ (fun hHeld => ?_)
          clear hK K
          refine norm_ (a' := ?_) ?_ ?_
          rotate_left
          · show Act.put _ (some 5) _ = _
            simp only [Act.put, List.setIfInBounds_toArray, List.set_cons_zero, List.set_cons_succ, i64_w, i32_w]
            rfl
          refine one_ (i := 5) (N := some 8) #[true, true, true, true, true, true, false, true, true, false, false, true, true, false, false, true, true, false, false] rfl rfl (one_of HT_.out (by kernel_rfl)) (by decide) (fun K hK => ?_)
          refine goes_ Try.func46 (by kernel_rfl) rfl #[.int .i64 a0_1] (by rfl) rfl rfl (by (try simp only [List.map_toArray, List.map_cons, List.map_nil]); first | done | rfl | (simp only [List.length_drop, List.length_take]; rfl)) ?_
          with_reducible refine (thresherref15_num.calls k a0_1 t259 _ A3.out).mono ?_
          rintro e w13 ⟨rfl, hb⟩
          refine ⟨_, rfl, ?_⟩
          have n0_ := Aside0.mk (blk_below (g := gb257) (o := .cells #[.int .i64 a0_0, .int .i64 a0_1, .int .i64 a0_2, .int .i64 a0_3, .string a0_4] 26 (0, 0)) (by (with_reducible repeat (first | refine blk_drewN ?_ _ | refine blk_drew ?_ | refine blk_alloc ?_ _)); exact BK257.out) hb)
          have n1_ := Aside0.mk (below_step (by repeat (first | (with_reducible first | exact HB.out | apply below_alloc | apply pw_below_drewN | apply below_drew1 | refine below_set ?_ GE257.out) | exact HB.out)) hb)
          clear BK257
          clear HB
          have BK257 := n0_
          have HB := n1_
          clear n0_ n1_
          (try clear hb)
          (try clear hb2)
          (try clear hk)
          (try clear hi)
          refine hK.out _ _ ⟨(blk_cell BK257.out 0).trans rfl, (blk_cell BK257.out 1).trans rfl, (blk_cell BK257.out 2).trans rfl, (blk_cell BK257.out 3).trans rfl, (blk_cell BK257.out 4).trans rfl⟩ (fun hHeld => ?_)
          clear hK K
          refine norm_ (a' := ?_) ?_ ?_
          rotate_left
          · show Act.put _ (some 8) _ = _
            simp only [Act.put, List.setIfInBounds_toArray, List.set_cons_zero, List.set_cons_succ, i64_w, i32_w]
            rfl
          refine pure_ (i := 6) (N := some 9) (v := ?_) (a' := ?_) #[true, true, true, true, true, true, true, true, true, false, false, true, true, false, false, true, true, false, false] rfl rfl (any_of HT_.out (by kernel_rfl)) (fun _ _ _ h => h) (Or.inl ⟨by rfl, ?_⟩) ?_ ?_
          rotate_left
          · intro w'
            go_simp
            with_reducible rfl
          rotate_left
          · simp only [Act.put, List.setIfInBounds_toArray, List.set_cons_zero, List.set_cons_succ, i64_w, i32_w]
            rfl
          refine one_ (i := 9) (N := some 12) #[true, true, true, true, true, true, true, true, true, true, false, true, true, false, false, true, true, false, false] rfl rfl (one_of HT_.out (by kernel_rfl)) (by decide) (fun K hK => ?_)
          refine goes_ Try.func46 (by kernel_rfl) rfl #[.int .i64 a0_2] (by rfl) rfl rfl (by (try simp only [List.map_toArray, List.map_cons, List.map_nil]); first | done | rfl | (simp only [List.length_drop, List.length_take]; rfl)) ?_
          with_reducible refine (thresherref15_num.calls k a0_2 t260 _ A5.out).mono ?_
          rintro e w14 ⟨rfl, hb⟩
          refine ⟨_, rfl, ?_⟩
          have n0_ := Aside0.mk (blk_below (g := gb257) (o := .cells #[.int .i64 a0_0, .int .i64 a0_1, .int .i64 a0_2, .int .i64 a0_3, .string a0_4] 26 (0, 0)) (by (with_reducible repeat (first | refine blk_drewN ?_ _ | refine blk_drew ?_ | refine blk_alloc ?_ _)); exact BK257.out) hb)
          have n1_ := Aside0.mk (below_step (by repeat (first | (with_reducible first | exact HB.out | apply below_alloc | apply pw_below_drewN | apply below_drew1 | refine below_set ?_ GE257.out) | exact HB.out)) hb)
          clear BK257
          clear HB
          have BK257 := n0_
          have HB := n1_
          clear n0_ n1_
          (try clear hb)
          (try clear hb2)
          (try clear hk)
          (try clear hi)
          refine hK.out _ _ ⟨(blk_cell BK257.out 0).trans rfl, (blk_cell BK257.out 1).trans rfl, (blk_cell BK257.out 2).trans rfl, (blk_cell BK257.out 3).trans rfl, (blk_cell BK257.out 4).trans rfl⟩ (fun hHeld => ?_)
          clear hK K
          refine norm_ (a' := ?_) ?_ ?_
          rotate_left
          · show Act.put _ (some 12) _ = _
            simp only [Act.put, List.setIfInBounds_toArray, List.set_cons_zero, List.set_cons_succ, i64_w, i32_w]
            rfl
          refine pure_ (i := 10) (N := some 13) (v := ?_) (a' := ?_) #[true, true, true, true, true, true, true, true, true, true, true, true, true, false, false, true, true, false, false] rfl rfl (any_of HT_.out (by kernel_rfl)) (fun _ _ _ h => h) (Or.inl ⟨by rfl, ?_⟩) ?_ ?_
          rotate_left
          · intro w'
            go_simp
            with_reducible rfl
          rotate_left
          · simp only [Act.put, List.setIfInBounds_toArray, List.set_cons_zero, List.set_cons_succ, i64_w, i32_w]
            rfl
          refine one_ (i := 13) (N := some 16) #[true, true, true, true, true, true, true, true, true, true, true, true, true, true, false, true, true, false, false] rfl rfl (one_of HT_.out (by kernel_rfl)) (by decide) (fun K hK => ?_)
          refine goes_ Try.func46 (by kernel_rfl) rfl #[.int .i64 a0_3] (by rfl) rfl rfl (by (try simp only [List.map_toArray, List.map_cons, List.map_nil]); first | done | rfl | (simp only [List.length_drop, List.length_take]; rfl)) ?_
          with_reducible refine (thresherref15_num.calls k a0_3 t261 _ A7.out).mono ?_
          rintro e w15 ⟨rfl, hb⟩
          refine ⟨_, rfl, ?_⟩
          have n0_ := Aside0.mk (blk_below (g := gb257) (o := .cells #[.int .i64 a0_0, .int .i64 a0_1, .int .i64 a0_2, .int .i64 a0_3, .string a0_4] 26 (0, 0)) (by (with_reducible repeat (first | refine blk_drewN ?_ _ | refine blk_drew ?_ | refine blk_alloc ?_ _)); exact BK257.out) hb)
          have n1_ := Aside0.mk (below_step (by repeat (first | (with_reducible first | exact HB.out | apply below_alloc | apply pw_below_drewN | apply below_drew1 | refine below_set ?_ GE257.out) | exact HB.out)) hb)
          clear BK257
          clear HB
          have BK257 := n0_
          have HB := n1_
          clear n0_ n1_
          (try clear hb)
          (try clear hb2)
          (try clear hk)
          (try clear hi)
          refine hK.out _ _ ⟨(blk_cell BK257.out 0).trans rfl, (blk_cell BK257.out 1).trans rfl, (blk_cell BK257.out 2).trans rfl, (blk_cell BK257.out 3).trans rfl, (blk_cell BK257.out 4).trans rfl⟩ (fun hHeld => ?_)
          clear hK K
          refine norm_ (a' := ?_) ?_ ?_
          rotate_left
          · show Act.put _ (some 16) _ = _
            simp only [Act.put, List.setIfInBounds_toArray, List.set_cons_zero, List.set_cons_succ, i64_w, i32_w]
            rfl
          refine pure_ (i := 14) (N := some 17) (v := ?_) (a' := ?_) #[true, true, true, true, true, true, true, true, true, true, true, true, true, true, true, true, true, false, false] rfl rfl (any_of HT_.out (by kernel_rfl)) (fun _ _ _ h => h) (Or.inl ⟨by rfl, ?_⟩) ?_ ?_
          rotate_left
          · intro w'
            go_simp
            with_reducible rfl
          rotate_left
          · simp only [Act.put, List.setIfInBounds_toArray, List.set_cons_zero, List.set_cons_succ, i64_w, i32_w]
            rfl
          refine pure_ (i := 17) (N := some 20) (v := ?_) (a' := ?_) #[true, true, true, true, true, true, true, true, true, true, true, true, true, true, true, true, true, true, false] rfl rfl (any_of HT_.out (by kernel_rfl)) (fun _ _ _ h => h) (Or.inl ⟨by rfl, ?_⟩) ?_ ?_
          rotate_left
          · intro w'
            go_simp
            with_reducible rfl
          rotate_left
          · simp only [Act.put, List.setIfInBounds_toArray, List.set_cons_zero, List.set_cons_succ, i64_w, i32_w]
            rfl
          refine pure_ (i := 18) (N := some 2) (v := ?_) (a' := ?_) #[true, true, true, true, true, true, true, true, true, true, true, true, true, true, true, true, true, true, true] rfl rfl (any_of HT_.out (by kernel_rfl)) (fun _ _ _ h => h) (Or.inl ⟨by rfl, ?_⟩) ?_ ?_
          rotate_left
          · intro w'
            go_simp
            with_reducible rfl
          rotate_left
          · simp only [Act.put, List.setIfInBounds_toArray, List.set_cons_zero, List.set_cons_succ, i64_w, i32_w]
            rfl
          refine done_ (done_of HT_.out (by kernel_rfl)) ?_
          try go_wp2
          go_ret
          exact ⟨by first | rfl | (simp [errW_none, errW_some] <;> rfl) | (simp [*, errW_none, errW_some] <;> rfl), by repeat (first | (with_reducible first | exact HB.out | apply below_alloc | apply pw_below_drewN | apply below_drew1 | refine below_set ?_ GE257.out) | exact HB.out)⟩
        · rw [if_neg c9] at H
          exact absurd H (by simp)
      · rw [if_neg c8] at H
        exact absurd H (by simp)
    · rw [if_neg c6] at H
      exact absurd H (by simp)
  · rw [if_neg c4] at H
    exact absurd H (by simp)

/-! ### num_back: function 52 -/
def num_back.f (a0 : Int) : Option (Int) := some (Go.bits .xor .i64 (wrap64 (a0 / 2)) (wrap64 (-(wrap64 (Go.bits .and .u64 a0 1)))))
set_option maxHeartbeats 8000000 in
set_option maxRecDepth 100000 in
theorem num_back.calls (a0 : Int) (r : Int) (w : World) (h : num_back.f a0 = some r) :
    Calls Try.prog 52 #[.int .u64 a0] w fun e w' => e = .returned (.int .i64 r) ∧ Drawn0 w w' := by
  have H : (some (Go.bits .xor .i64 (wrap64 (a0 / 2)) (wrap64 (-(wrap64 (Go.bits .and .u64 a0 1)))))) = some r := h
  clear h
  obtain rfl := Option.some.inj H
  go_enter Try.func52, Try.ntmps52
  go_wp2
  go_ret
  exact ⟨by first | rfl | (simp; done) | (simp [*]; done), by repeat (first | exact Drawn0.refl _ | apply Drawn0.step)⟩

/-! ### num_Take: function 47 -/
mutual
def num_Take.l0 : Nat → ByteArray → Int → Int → Option (Int × Int × Int)
  | 0, _, _, _ => none
  | k + 1, x0, x3, x5 => if x3 < (x0.size : Int) then (if 0 ≤ x3 then (if x3 = 9 then (num_Take.j1 k x0 x3 x5 (bt x0 x3) (decide ((bt x0 x3) > 1))) else (num_Take.j1 k x0 x3 x5 (bt x0 x3) false)) else (none)) else (some (0, 0, 6))
def num_Take.j1 : Nat → ByteArray → Int → Int → Int → Bool → Option (Int × Int × Int)
  | 0, _, _, _, _, _ => none
  | k + 1, x0, x3, x5, x6, x19 => if x19 = true then (some (0, 0, 7)) else (if 0 ≤ (wrap64 (7 * x3)) then (if x6 ≥ 128 then (num_Take.l0 k x0 (wrap64 (x3 + 1)) (Go.bits .or .u64 x5 (shl .u64 (IntKind.u64.wrap (Go.bits .and .u8 x6 127)) (wrap64 (7 * x3))))) else (if x6 = 0 then (if (wrap64 (x3 + 1)) > 1 then (some (0, 0, 7)) else ((num_back.f (Go.bits .or .u64 x5 (shl .u64 (IntKind.u64.wrap (Go.bits .and .u8 x6 127)) (wrap64 (7 * x3))))).bind fun t262 => (some (t262, wrap64 (x3 + 1), 0)))) else ((num_back.f (Go.bits .or .u64 x5 (shl .u64 (IntKind.u64.wrap (Go.bits .and .u8 x6 127)) (wrap64 (7 * x3))))).bind fun t263 => (some (t263, wrap64 (x3 + 1), 0))))) else (none))
end
def num_Take.f (k : Nat) (a0 : ByteArray) : Option (Int × Int × Int) := num_Take.l0 k a0 0 0
theorem num_Take.mono_l : ∀ k, (∀ y0 y1 y2, LeO (num_Take.l0 k y0 y1 y2) (num_Take.l0 (k + 1) y0 y1 y2)) ∧ (∀ y0 y1 y2 y3 y4, LeO (num_Take.j1 k y0 y1 y2 y3 y4) (num_Take.j1 (k + 1) y0 y1 y2 y3 y4))
  | 0 => ⟨fun _ _ _ r h => by simp [num_Take.l0] at h, fun _ _ _ _ _ r h => by simp [num_Take.j1] at h⟩
  | k + 1 => by
    obtain ⟨ih0, ih1⟩ := num_Take.mono_l k
    refine ⟨?_, ?_⟩
    · intro y0 y1 y2
      unfold num_Take.l0
      repeat' first
      | (with_reducible exact ih0 _ _ _)
      | (with_reducible exact ih1 _ _ _ _ _)
      | (with_reducible exact LeO.refl _)
      | (with_reducible exact LeO.none _)
      | (with_reducible refine LeO.ite ?_ ?_)
      | (with_reducible refine LeO.bind ?_ (fun _ => ?_))
      | exact ih0 _ _ _
      | exact ih1 _ _ _ _ _
      | exact LeO.none _
      | refine LeO.ite ?_ ?_
      | refine LeO.bind ?_ (fun _ => ?_)
    · intro y0 y1 y2 y3 y4
      unfold num_Take.j1
      repeat' first
      | (with_reducible exact ih0 _ _ _)
      | (with_reducible exact ih1 _ _ _ _ _)
      | (with_reducible exact LeO.refl _)
      | (with_reducible exact LeO.none _)
      | (with_reducible refine LeO.ite ?_ ?_)
      | (with_reducible refine LeO.bind ?_ (fun _ => ?_))
      | exact ih0 _ _ _
      | exact ih1 _ _ _ _ _
      | exact LeO.none _
      | refine LeO.ite ?_ ?_
      | refine LeO.bind ?_ (fun _ => ?_)
theorem num_Take.mono : ∀ a0 k, LeO (num_Take.f k a0) (num_Take.f (k + 1) a0) := by
  intro a0 k
  obtain ⟨ih0, ih1⟩ := num_Take.mono_l k
  unfold num_Take.f
  repeat' first
      | (with_reducible exact ih0 _ _ _)
      | (with_reducible exact ih1 _ _ _ _ _)
      | (with_reducible exact LeO.refl _)
      | (with_reducible exact LeO.none _)
      | (with_reducible refine LeO.ite ?_ ?_)
      | (with_reducible refine LeO.bind ?_ (fun _ => ?_))
      | exact ih0 _ _ _
      | exact ih1 _ _ _ _ _
      | exact LeO.none _
      | refine LeO.ite ?_ ?_
      | refine LeO.bind ?_ (fun _ => ?_)
set_option maxHeartbeats 8000000 in
set_option maxRecDepth 100000 in
theorem num_Take.calls (k : Nat) (a0 : ByteArray) (r1 : Int) (r2 : Int) (r3 : Int) (w : World) (h : num_Take.f k a0 = some (r1, r2, r3)) :
    Calls Try.prog 47 #[.string a0] w fun e w' => e = .returned (.tuple #[.int .i64 r1, .int .i64 r2, .int .i64 r3]) ∧ Drawn0 w w' := by
  have H : (num_Take.l0 k a0 0 0) = some (r1, r2, r3) := h
  clear h
  have H' := Aside0.mk H
  clear H
  go_enter Try.func47, Try.ntmps47
  go_wp2
  go_loopg [3, 5] k (fun kq v3 v5 w' => ∃ (x3_1 : Int) (x5_1 : Int), v3 = .int .i64 x3_1 ∧ v5 = .int .u64 x5_1 ∧ Aside0 (num_Take.l0 kq a0 x3_1 x5_1 = some (r1, r2, r3)) ∧ Aside0 (kq ≤ k) ∧ Drawn0 w w')
  case atStart => exact ⟨(0), (0), (by first | rfl | (simp; done) | (simp [*]; done)), (by first | rfl | (simp; done) | (simp [*]; done)), H', ⟨Nat.le_refl _⟩, by repeat (first | exact Drawn0.refl _ | apply Drawn0.step)⟩
  case round =>
    clear H'
    obtain ⟨x3_1, x5_1, rfl, rfl, HA, HK1, ⟨m1, rfl⟩⟩ := hrel
    cases gk with
    | zero => exact absurd HA.out (by simp [num_Take.l0])
    | succ k1 =>
      have H := HA.out
      clear HA
      simp only [num_Take.l0] at H
      by_cases c2 : x3_1 < (a0.size : Int)
      · rw [if_pos c2] at H
        have c2b0 : decide (x3_1 < (a0.size : Int)) = true := decide_eq_true c2
        clear c2
        by_cases c3 : 0 ≤ x3_1
        · rw [if_pos c3] at H
          have c3b0 : decide (0 ≤ x3_1) = true := decide_eq_true c3
          clear c3
          have HC5 := Aside0.mk H
          clear H
          have p4 : 0 ≤ (x3_1 : Int) := of_decide_eq_true (by first | (with_reducible assumption) | assumption)
          have q4 : x3_1 < (a0.size : Int) := of_decide_eq_true (by first | (with_reducible assumption) | assumption)
          have hx4 := bt_at a0 x3_1
          replace p4 := eq_true p4
          replace q4 := eq_true q4
          go_upto_region 4 with (fail)
          go_cut [19] (fun v19 wc => ∃ (kq : Nat) (x19_4 : Bool), v19 = .bool x19_4 ∧ Aside0 (num_Take.j1 kq a0 x3_1 x5_1 (bt a0 x3_1) x19_4 = some (r1, r2, r3)) ∧ Aside0 (kq ≤ k1) ∧ Drawn0 w wc)
          case first =>
            have H := HC5.out
            clear HC5
            by_cases c6 : x3_1 = 9
            · rw [if_pos c6] at H
              have c6b0 : (x3_1 == 9) = true := beq_iff_eq.mpr c6
              have c6b1 : (x3_1 != 9) = false := bne_eq_false_iff_eq.mpr c6
              clear c6
              (first | rw [c6b0] | (simp only [i64_w, i32_w]; rw [c6b0]) | skip)
              have H' := Aside0.mk H
              clear H
              go_wp2
              go_meet
              case rel => exact ⟨_, (decide ((bt a0 x3_1) > 1)), (by first | rfl | (simp; done) | (simp [*]; done)), H', ⟨by have := HK1.out; first | omega | exact Nat.le_refl _⟩, by repeat (first | exact Drawn0.refl _ | apply Drawn0.step)⟩
            · rw [if_neg c6] at H
              have c6b0 : (x3_1 == 9) = false := beq_eq_false_iff_ne.mpr c6
              have c6b1 : (x3_1 != 9) = true := bne_iff_ne.mpr c6
              (first | rw [c6b0] | (simp only [i64_w, i32_w]; rw [c6b0]) | skip)
              have H' := Aside0.mk H
              clear H
              go_wp2
              go_meet
              case rel => exact ⟨_, (false), (by first | rfl | (simp; done) | (simp [*]; done)), H', ⟨by have := HK1.out; first | omega | exact Nat.le_refl _⟩, by repeat (first | exact Drawn0.refl _ | apply Drawn0.step)⟩
          case rest =>
            clear HC5
            (try clear c2); (try clear c2b0); (try clear p2); (try clear c3); (try clear c3b0); (try clear c4); (try clear p4); (try clear q4); (try clear hx4); (try clear c6); (try clear c6b0); (try clear c6b1); (try clear p4); (try clear q4)
            obtain ⟨kq, x19_4, rfl, HA, HJ4, ⟨mc4, rfl⟩⟩ := hcut
            cases kq with
            | zero => exact absurd HA.out (by simp [num_Take.j1])
            | succ kj4 =>
              have H := HA.out
              clear HA
              simp only [num_Take.j1] at H
              by_cases c7 : x19_4 = true
              · subst c7
                have H1 : (some (0, 0, 7)) = some (r1, r2, r3) := by rw [if_pos rfl] at H; exact H
                clear H
                have H := H1
                clear H1
                simp only [Option.some.injEq, Prod.mk.injEq] at H
                obtain ⟨rfl, rfl, rfl⟩ := H
                go_wp2
                go_ret3
                exact ⟨by first | rfl | (simp; done) | (simp [*]; done), by repeat (first | exact Drawn0.refl _ | apply Drawn0.step)⟩
              · replace c7 := Bool.eq_false_iff.mpr c7
                subst c7
                have H1 : (if 0 ≤ (wrap64 (7 * x3_1)) then (if (bt a0 x3_1) ≥ 128 then (num_Take.l0 kj4 a0 (wrap64 (x3_1 + 1)) (Go.bits .or .u64 x5_1 (shl .u64 (IntKind.u64.wrap (Go.bits .and .u8 (bt a0 x3_1) 127)) (wrap64 (7 * x3_1))))) else (if (bt a0 x3_1) = 0 then (if (wrap64 (x3_1 + 1)) > 1 then (some (0, 0, 7)) else ((num_back.f (Go.bits .or .u64 x5_1 (shl .u64 (IntKind.u64.wrap (Go.bits .and .u8 (bt a0 x3_1) 127)) (wrap64 (7 * x3_1))))).bind fun t262 => (some (t262, wrap64 (x3_1 + 1), 0)))) else ((num_back.f (Go.bits .or .u64 x5_1 (shl .u64 (IntKind.u64.wrap (Go.bits .and .u8 (bt a0 x3_1) 127)) (wrap64 (7 * x3_1))))).bind fun t263 => (some (t263, wrap64 (x3_1 + 1), 0))))) else (none)) = some (r1, r2, r3) := by rw [if_neg (show ¬ (false = true) by decide)] at H; exact H
                clear H
                have H := H1
                clear H1
                obtain ⟨ji8, hji8⟩ : ∃ j_ : Int, (wrap64 (7 * x3_1)) = j_ := ⟨_, rfl⟩
                replace H : (if 0 ≤ (ji8) then (if (bt a0 x3_1) ≥ 128 then (num_Take.l0 kj4 a0 (wrap64 (x3_1 + 1)) (Go.bits .or .u64 x5_1 (shl .u64 (IntKind.u64.wrap (Go.bits .and .u8 (bt a0 x3_1) 127)) (ji8)))) else (if (bt a0 x3_1) = 0 then (if (wrap64 (x3_1 + 1)) > 1 then (some (0, 0, 7)) else ((num_back.f (Go.bits .or .u64 x5_1 (shl .u64 (IntKind.u64.wrap (Go.bits .and .u8 (bt a0 x3_1) 127)) (ji8)))).bind fun t262 => (some (t262, wrap64 (x3_1 + 1), 0)))) else ((num_back.f (Go.bits .or .u64 x5_1 (shl .u64 (IntKind.u64.wrap (Go.bits .and .u8 (bt a0 x3_1) 127)) (ji8)))).bind fun t263 => (some (t263, wrap64 (x3_1 + 1), 0))))) else (none)) = some (r1, r2, r3) := by first | (rw [hji8] at H; exact H) | (simp only [hji8] at H ⊢; exact H)
                have hji8w : (IntKind.i64.wrap (7 * x3_1)) = ji8 := (i64_w _).trans hji8
                by_cases c9 : 0 ≤ (ji8)
                · rw [if_pos c9] at H
                  have c9b0 := eq_true c9
                  have c9b1 : decide (0 ≤ (ji8)) = true := decide_eq_true c9
                  clear c9
                  obtain ⟨ji10, hji10⟩ : ∃ j_ : Int, (shl .u64 (IntKind.u64.wrap (Go.bits .and .u8 (bt a0 x3_1) 127)) (ji8)) = j_ := ⟨_, rfl⟩
                  replace H : (if (bt a0 x3_1) ≥ 128 then (num_Take.l0 kj4 a0 (wrap64 (x3_1 + 1)) (Go.bits .or .u64 x5_1 (ji10))) else (if (bt a0 x3_1) = 0 then (if (wrap64 (x3_1 + 1)) > 1 then (some (0, 0, 7)) else ((num_back.f (Go.bits .or .u64 x5_1 (ji10))).bind fun t262 => (some (t262, wrap64 (x3_1 + 1), 0)))) else ((num_back.f (Go.bits .or .u64 x5_1 (ji10))).bind fun t263 => (some (t263, wrap64 (x3_1 + 1), 0))))) = some (r1, r2, r3) := by first | (rw [hji10] at H; exact H) | (simp only [hji10] at H ⊢; exact H)
                  have hji10_ : (IntKind.u64.wrap ((IntKind.u64.wrap (Go.bits .and .u8 (bt a0 x3_1) 127)) * 2 ^ min (ji8).toNat 64)) = ji10 := hji10
                  have hji10z : (ji8) ≤ 64 → (IntKind.u64.wrap ((IntKind.u64.wrap (Go.bits .and .u8 (bt a0 x3_1) 127)) * 2 ^ (ji8).toNat)) = ji10 := shl_small hji10
                  by_cases c11 : (bt a0 x3_1) ≥ 128
                  · rw [if_pos c11] at H
                    have c11b0 : decide (128 ≤ (bt a0 x3_1)) = true := decide_eq_true c11
                    clear c11
                    have H' := Aside0.mk H
                    clear H
                    go_wp2
                    go_roundg kj4
                    case measure => have := HK1.out; have := HJ4.out; omega
                    case rel => exact ⟨(wrap64 (x3_1 + 1)), (Go.bits .or .u64 x5_1 (ji10)), (by first | rfl | (simp; done) | (simp [*]; done)), (by first | rfl | (simp; done) | (simp only [← hji10] <;> (first | rfl | simp)) | (simp [*]; done)), H', ⟨by have := HK1.out; have := HJ4.out; omega⟩, by repeat (first | exact Drawn0.refl _ | apply Drawn0.step)⟩
                  · rw [if_neg c11] at H
                    have c11b0 : decide (128 ≤ (bt a0 x3_1)) = false := decide_eq_false c11
                    clear c11
                    by_cases c12 : (bt a0 x3_1) = 0
                    · rw [if_pos c12] at H
                      have c12b0 : ((bt a0 x3_1) == 0) = true := beq_iff_eq.mpr c12
                      have c12b1 : ((bt a0 x3_1) != 0) = false := bne_eq_false_iff_eq.mpr c12
                      clear c12
                      by_cases c13 : (wrap64 (x3_1 + 1)) > 1
                      · rw [if_pos c13] at H
                        have c13b0 : decide (1 < (wrap64 (x3_1 + 1))) = true := decide_eq_true c13
                        clear c13
                        simp only [Option.some.injEq, Prod.mk.injEq] at H
                        obtain ⟨rfl, rfl, rfl⟩ := H
                        go_wp2
                        go_ret3
                        exact ⟨by first | rfl | (simp; done) | (simp only [← hji8, ← hji10] <;> (first | rfl | simp)) | (simp [*]; done), by repeat (first | exact Drawn0.refl _ | apply Drawn0.step)⟩
                      · rw [if_neg c13] at H
                        have c13b0 : decide (1 < (wrap64 (x3_1 + 1))) = false := decide_eq_false c13
                        clear c13
                        replace H := Option.bind_eq_some_iff.mp H
                        obtain ⟨t262, A140, H⟩ := H
                        replace H : (some (t262, wrap64 (x3_1 + 1), 0)) = some (r1, r2, r3) := H
                        have A14 := Aside0.mk A140
                        clear A140
                        simp only [Option.some.injEq, Prod.mk.injEq] at H
                        obtain ⟨rfl, rfl, rfl⟩ := H
                        go_wp2_with (first | ((with_reducible refine gate_callee (f := 52) rfl ?_); refine goesL_ (some 39) rfl rfl Try.func52 (by kernel_rfl) rfl #[.int .u64 (Go.bits .or .u64 x5_1 (ji10))] rfl (by (try simp only [List.map_toArray, List.map_cons, List.map_nil]); first | done | (simp only [hji10]; rfl) | rfl | (simp only [List.length_drop, List.length_take]; rfl)) ?_; (with_reducible refine (num_back.calls (Go.bits .or .u64 x5_1 (ji10)) t262 _ A14.out).mono ?_); rintro e w' ⟨rfl, ⟨nd, rfl⟩⟩; refine ⟨_, rfl, ?_⟩))
                        go_ret3
                        exact ⟨by first | rfl | (simp; done) | (simp only [← hji8, ← hji10] <;> (first | rfl | simp)) | (simp [*]; done), by repeat (first | exact Drawn0.refl _ | apply Drawn0.step)⟩
                    · rw [if_neg c12] at H
                      have c12b0 : ((bt a0 x3_1) == 0) = false := beq_eq_false_iff_ne.mpr c12
                      have c12b1 : ((bt a0 x3_1) != 0) = true := bne_iff_ne.mpr c12
                      replace H := Option.bind_eq_some_iff.mp H
                      obtain ⟨t263, A150, H⟩ := H
                      replace H : (some (t263, wrap64 (x3_1 + 1), 0)) = some (r1, r2, r3) := H
                      have A15 := Aside0.mk A150
                      clear A150
                      simp only [Option.some.injEq, Prod.mk.injEq] at H
                      obtain ⟨rfl, rfl, rfl⟩ := H
                      go_wp2_with (first | ((with_reducible refine gate_callee (f := 52) rfl ?_); refine goesL_ (some 39) rfl rfl Try.func52 (by kernel_rfl) rfl #[.int .u64 (Go.bits .or .u64 x5_1 (ji10))] rfl (by (try simp only [List.map_toArray, List.map_cons, List.map_nil]); first | done | (simp only [hji10]; rfl) | rfl | (simp only [List.length_drop, List.length_take]; rfl)) ?_; (with_reducible refine (num_back.calls (Go.bits .or .u64 x5_1 (ji10)) t263 _ A15.out).mono ?_); rintro e w' ⟨rfl, ⟨nd, rfl⟩⟩; refine ⟨_, rfl, ?_⟩))
                      go_ret3
                      exact ⟨by first | rfl | (simp; done) | (simp only [← hji8, ← hji10] <;> (first | rfl | simp)) | (simp [*]; done), by repeat (first | exact Drawn0.refl _ | apply Drawn0.step)⟩
                · rw [if_neg c9] at H
                  exact absurd H (by simp)
        · rw [if_neg c3] at H
          exact absurd H (by simp)
      · rw [if_neg c2] at H
        have c2b0 : decide (x3_1 < (a0.size : Int)) = false := decide_eq_false c2
        clear c2
        simp only [Option.some.injEq, Prod.mk.injEq] at H
        obtain ⟨rfl, rfl, rfl⟩ := H
        go_wp2
        go_ret3
        exact ⟨by first | rfl | (simp; done) | (simp [*]; done), by repeat (first | exact Drawn0.refl _ | apply Drawn0.step)⟩

/-! ### ent_Take: function 30 -/
/-- So many numbers, one behind the other: the numbers, what is left, the error. -/
def ent_Take.go (k : Nat) : Nat → ByteArray → List Int → Option (List Int × ByteArray × Int)
  | 0, s, l => some (l, s, 0)
  | m + 1, s, l => (num_Take.f k s).bind fun t => if t.2.2 = 0 then (if 0 ≤ t.2.1 then (if t.2.1 ≤ (s.size : Int) then ent_Take.go k m (s.extract t.2.1.toNat s.size) (l ++ [t.1]) else none) else none) else some ([], s, t.2.2)
def ent_Take.f (k : Nat) (a0 : ByteArray) : Option (Int × Int × Int × Int × ByteArray × Int) := (ent_Take.go k 4 a0 []).bind fun t => if t.2.2 = 0 then ((ent_Check.f k (rd t.1 0) (rd t.1 1) (rd t.1 2) (rd t.1 3) t.2.1).bind fun c => if c = 0 then some (rd t.1 0, rd t.1 1, rd t.1 2, rd t.1 3, t.2.1, 0) else some (0, 0, 0, 0, ⟨#[]⟩, 7)) else some (0, 0, 0, 0, ⟨#[]⟩, t.2.2)
theorem ent_Take.mono_go (k : Nat) : ∀ m s l, LeO (ent_Take.go k m s l) (ent_Take.go (k + 1) m s l)
  | 0, _, _ => LeO.refl _
  | m + 1, s, l => by
    unfold ent_Take.go
    refine LeO.bind (num_Take.mono _ _) (fun _ => ?_)
    exact LeO.ite (LeO.ite (LeO.ite (ent_Take.mono_go k m _ _) (LeO.none _)) (LeO.none _)) (LeO.refl _)
theorem ent_Take.mono : ∀ a0 k, LeO (ent_Take.f k a0) (ent_Take.f (k + 1) a0) := by
  intro a0 k
  unfold ent_Take.f
  refine LeO.bind (ent_Take.mono_go _ _ _ _) (fun _ => LeO.ite (LeO.bind (ent_Check.mono _ _ _ _ _ _) (fun _ => LeO.refl _)) (LeO.refl _))

/-- An array of four numbers, the first ones laid. -/
def ent_Take.arr (l : List Int) : List Value := (l.map (Value.int .i64)) ++ List.replicate (4 - l.length) (.int .i64 0)
theorem ent_Take.arr_set (l : List Int) (v : Int) (h : l.length < 4) : (ent_Take.arr l).toArray.setIfInBounds l.length (.int .i64 v) = (ent_Take.arr (l ++ [v])).toArray := by
  obtain ⟨d, hd⟩ : ∃ d, 4 - l.length = d + 1 := ⟨3 - l.length, by omega⟩
  have hd2 : 4 - (l ++ [v]).length = d := by simp; omega
  unfold ent_Take.arr
  rw [hd, hd2, List.setIfInBounds_toArray, List.replicate_succ, List.map_append]
  congr 1
  rw [List.set_append, if_neg (by simp)]
  simp
set_option maxHeartbeats 8000000 in
set_option maxRecDepth 100000 in
theorem ent_Take.calls (k : Nat) (a0 : ByteArray) (r1 r2 r3 r4 : Int) (r5 : ByteArray) (r6 : Int) (w : World) (h : ent_Take.f k a0 = some (r1, r2, r3, r4, r5, r6)) :
    Calls Try.prog 30 #[.string a0] w fun e w' => e = .returned (.tuple #[.agg #[.int .i64 r1, .int .i64 r2, .int .i64 r3, .int .i64 r4, .string r5], .int .i64 r6]) ∧ Below w.heap.size w w' := by
  have hu26 := Try.underlying26
  have HB := Aside0.mk (Below.refl w.heap.size w)
  obtain ⟨⟨l, s', e⟩, hgo, H⟩ := Option.bind_eq_some_iff.mp h
  have HGO := Aside0.mk hgo
  have H' := Aside0.mk H
  clear h hgo H
  go_enter Try.func30, Try.ntmps30
  go_wp2_with fail
  go_loopg [0, 10] 4 (fun m v0 v10 w' => ∃ (s : ByteArray) (l0 : List Int), v0 = .string s ∧ v10 = .int .i64 (l0.length : Int) ∧ Aside0 (l0.length + m = 4) ∧ Aside0 (ent_Take.go k m s l0 = some (l, s', e)) ∧ Aside0 (Below w.heap.size w w') ∧ Aside0 (w'.heap[w.heap.size]? = some (.cells #[.int .i64 0, .int .i64 0, .int .i64 0, .int .i64 0, .string ⟨#[]⟩] 26 (0, 0))) ∧ Aside0 (w'.heap[w.heap.size + 1]? = some (.cells (ent_Take.arr l0).toArray 70 (0, 0))))
  case atStart =>
    refine ⟨a0, [], rfl, rfl, ⟨rfl⟩, HGO, ⟨?_⟩, ⟨?_⟩, ⟨?_⟩⟩
    · exact below_alloc (below_alloc HB.out _) _
    · exact blk_alloc (blk_new w _) _
    · have := blk_new (w.alloc (.cells #[.int .i64 0, .int .i64 0, .int .i64 0, .int .i64 0, .string ⟨#[]⟩] 26)) (.cells #[.int .i64 0, .int .i64 0, .int .i64 0, .int .i64 0] 70)
      simpa [ent_Take.arr] using this
  case round =>
    clear HGO
    obtain ⟨s, l0, rfl, rfl, HL, HGO, HB, BR, BA⟩ := hrel
    cases gk with
    | zero =>
      have h4 : l0.length = 4 := by have := HL.out; omega
      have H := HGO.out
      clear HGO HL
      obtain ⟨rfl, rfl, rfl⟩ : l0 = l ∧ s = s' ∧ 0 = e := by simpa [ent_Take.go] using H
      clear H
      obtain ⟨v0, v1, v2, v3, rfl⟩ : ∃ v0 v1 v2 v3, l0 = [v0, v1, v2, v3] := by
        match l0, h4 with
        | [v0, v1, v2, v3], _ => exact ⟨v0, v1, v2, v3, rfl⟩
      have BA2 : Aside0 (wr.heap[w.heap.size + 1]? = some (.cells #[.int .i64 v0, .int .i64 v1, .int .i64 v2, .int .i64 v3] 70 (0, 0))) := ⟨BA.out⟩
      clear BA
      have HR := H'.out
      clear H' h4
      rw [if_pos rfl] at HR
      replace HR := Option.bind_eq_some_iff.mp HR
      obtain ⟨c, hC, HR⟩ := HR
      have A : Aside0 (ent_Check.f k v0 v1 v2 v3 s = some c) := ⟨hC⟩
      clear hC
      obtain ⟨hd0, hd1, hd2, hd3⟩ := cells4 BA2.out
      by_cases hc : c = 0
      · rw [if_pos hc] at HR
        obtain ⟨rfl, rfl, rfl, rfl, rfl, rfl⟩ : v0 = r1 ∧ v1 = r2 ∧ v2 = r3 ∧ v3 = r4 ∧ s = r5 ∧ 0 = r6 := by simpa [rd] using HR
        clear HR
        have hc1 : (c == 0) = true := beq_iff_eq.mpr hc
        have hc2 : (c != 0) = false := bne_eq_false_iff_eq.mpr hc
        clear hc
        go_wp2_with (first | (go_at_call 13; refine (ent_Check.calls k v0 v1 v2 v3 s _ _ A.out).mono ?_; rintro e w5 ⟨rfl, hb⟩; have HB5 := Aside0.mk (below_step (below_alloc HB.out _) hb); have BE5 := Aside0.mk (blk_below (blk_new wr _) hb); have BR5 := Aside0.mk (blk_below (blk_alloc BR.out _) hb); have hfz := fun i_ => blk_frozen BR5.out i_; obtain ⟨he0, he1, he2, he3, he4⟩ := cells5 BE5.out; obtain ⟨hx0, hx1, hx2, hx3, hx4⟩ := cells5 BR5.out; clear hb))
        refine bodyPost_ret (results_ct rfl _ _ w.heap.size 26 #[.int .i64 v0, .int .i64 v1, .int .i64 v2, .int .i64 v3, .string s] (0, 0) _ rfl (blk_put (blk_put (blk_put (blk_put (blk_put BR5.out 0 _ rfl) 1 _ rfl) 2 _ rfl) 3 _ rfl) 4 _ rfl) Try.underlying26 rfl (by kernel_rfl)) rfl ?_
        exact ⟨rfl, by repeat (first | exact HB5.out | (refine Below.setCell ?_ (by simp) _))⟩
      · rw [if_neg hc] at HR
        obtain ⟨rfl, rfl, rfl, rfl, rfl, rfl⟩ : 0 = r1 ∧ 0 = r2 ∧ 0 = r3 ∧ 0 = r4 ∧ ⟨#[]⟩ = r5 ∧ 7 = r6 := by simpa using HR
        clear HR
        have hc1 : (c == 0) = false := beq_eq_false_iff_ne.mpr hc
        have hc2 : (c != 0) = true := bne_iff_ne.mpr hc
        clear hc
        go_wp2_with (first | (go_at_call 13; refine (ent_Check.calls k v0 v1 v2 v3 s _ _ A.out).mono ?_; rintro e w5 ⟨rfl, hb⟩; have HB5 := Aside0.mk (below_step (below_alloc HB.out _) hb); have BE5 := Aside0.mk (blk_below (blk_new wr _) hb); have BR5 := Aside0.mk (blk_below (blk_alloc BR.out _) hb); have hfz := fun i_ => blk_frozen BR5.out i_; obtain ⟨he0, he1, he2, he3, he4⟩ := cells5 BE5.out; obtain ⟨hx0, hx1, hx2, hx3, hx4⟩ := cells5 BR5.out; clear hb))
        refine bodyPost_ret (results_ct rfl _ _ w.heap.size 26 #[.int .i64 0, .int .i64 0, .int .i64 0, .int .i64 0, .string ⟨#[]⟩] (0, 0) _ rfl (blk_put (blk_put (blk_put (blk_put (blk_put BR5.out 0 _ rfl) 1 _ rfl) 2 _ rfl) 3 _ rfl) 4 _ rfl) Try.underlying26 rfl (by kernel_rfl)) rfl ?_
        exact ⟨rfl, by repeat (first | exact HB5.out | (refine Below.setCell ?_ (by simp) _))⟩
    | succ m =>
      have H := HGO.out
      clear HGO
      simp only [ent_Take.go] at H
      obtain ⟨⟨v, n, e1⟩, hT, H⟩ := Option.bind_eq_some_iff.mp H
      have A := Aside0.mk hT
      clear hT
      simp only at H
      have hl : (l0.length : Int) < 4 := by have := HL.out; omega
      have hlb : decide ((l0.length : Int) < 4) = true := decide_eq_true hl
      by_cases he : e1 = 0
      · subst he
        rw [if_pos rfl] at H
        by_cases h0 : 0 ≤ n
        · rw [if_pos h0] at H
          by_cases h1 : n ≤ (s.size : Int)
          · rw [if_pos h1] at H
            have HN := Aside0.mk H
            clear H
            go_wp2_with (first | (go_at_call 47; refine (num_Take.calls k s v n 0 _ A.out).mono ?_; rintro e w' ⟨rfl, ⟨nd, rfl⟩⟩))
            have hc : wr.cell? ⟨w.heap.size + 1, l0.length, none⟩ = some (.int .i64 0) := by
              have h4 := HL.out
              rw [blk_cell BA.out]
              simp only [ent_Take.arr, List.getElem?_toArray]
              rw [List.getElem?_append_right (by simp), List.getElem?_replicate, if_pos (by simp; omega)]
            have hf : wr.frozen? ⟨w.heap.size + 1, l0.length, none⟩ = false := blk_frozen BA.out _
            have hk0 : decide (0 ≤ n) = true := decide_eq_true h0
            have hk1 : decide (n ≤ (s.size : Int)) = true := decide_eq_true h1
            go_region
            go_wp2
            go_roundg m
            case measure => omega
            case rel =>
              refine ⟨_, l0 ++ [v], rfl, ?_, ⟨by have := HL.out; simp; omega⟩, HN, ⟨?_⟩, ⟨?_⟩, ⟨?_⟩⟩
              · simp
              · exact Below.setCell (pw_below_drewN HB.out _) (by simp) _
              · exact blk_far (blk_drewN BR.out _) (by simp) _
              · refine blk_put (blk_drewN BA.out _) _ _ ?_
                exact ent_Take.arr_set l0 v (by have := HL.out; omega)
          · rw [if_neg h1] at H
            exact absurd H (by simp)
        · rw [if_neg h0] at H
          exact absurd H (by simp)
      · rw [if_neg he] at H
        obtain ⟨rfl, rfl, rfl⟩ : [] = l ∧ s = s' ∧ e1 = e := by simpa using H
        clear H
        have HR := H'.out
        rw [if_neg he] at HR
        obtain ⟨rfl, rfl, rfl, rfl, rfl, rfl⟩ : 0 = r1 ∧ 0 = r2 ∧ 0 = r3 ∧ 0 = r4 ∧ ⟨#[]⟩ = r5 ∧ e1 = r6 := by simpa using HR
        clear HR H'
        have he1 : (e1 == 0) = false := beq_eq_false_iff_ne.mpr he
        have he2 : (e1 != 0) = true := bne_iff_ne.mpr he
        have hz0 := blk_frozen BR.out 0
        obtain ⟨hc0, hc1, hc2, hc3, hc4⟩ := cells5 BR.out
        have hfz := fun i_ => blk_frozen BR.out i_
        go_wp2_with (first | (go_at_call 47; refine (num_Take.calls k s v n e1 _ A.out).mono ?_; rintro e w' ⟨rfl, ⟨nd, rfl⟩⟩))
        refine bodyPost_ret (results_ct rfl _ _ w.heap.size 26 #[.int .i64 0, .int .i64 0, .int .i64 0, .int .i64 0, .string ⟨#[]⟩] (0, 0) _ rfl (blk_put (blk_put (blk_put (blk_put (blk_put (blk_drewN BR.out _) 0 _ rfl) 1 _ rfl) 2 _ rfl) 3 _ rfl) 4 _ rfl) Try.underlying26 rfl (by kernel_rfl)) rfl ?_
        exact ⟨rfl, by repeat (first | exact HB.out | apply pw_below_drewN | (refine Below.setCell ?_ (by simp) _))⟩


end Go.Proofs.Ytjnlmcpcdgfpkaa.Q
