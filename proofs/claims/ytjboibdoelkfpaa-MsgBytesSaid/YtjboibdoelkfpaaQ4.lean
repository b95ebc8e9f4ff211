/- Contracts of the Go functions that these laws reach: each call answers what the plain Lean function beside it says. Written by a program of this session (pp.py). -/
import Derived.Test.YtjboibdoelkfpaaQ0
import Derived.Test.YtjboibdoelkfpaaQ3
namespace Go.Proofs.Ytjboibdoelkfpaa.Q
open Go.RowKit Go.Proofs.YtjboibdoelkfpaaW.PrintWords Go.Proofs.YtjboibdoelkfpaaW.PrintLast Go.Proofs.YtjboibdoelkfpaaW.PrintMore
attribute [local go_sem] max2_int min2_int max_two min_two max_three min_three max_four min_four   -- for this text's walks alone
set_option linter.unusedVariables false
set_option linter.unusedSimpArgs false

/-! ### num_Take: function 28 -/
mutual
def num_Take.l0 : Nat → ByteArray → Int → Int → Option (Int × Int × Int)
  | 0, _, _, _ => none
  | k + 1, x0, x3, x5 => if x3 < (x0.size : Int) then (if 0 ≤ x3 then (if x3 = 9 then (num_Take.j1 k x0 x3 x5 (bt x0 x3) (decide ((bt x0 x3) > 1))) else (num_Take.j1 k x0 x3 x5 (bt x0 x3) false)) else (none)) else (some (0, 0, 6))
def num_Take.j1 : Nat → ByteArray → Int → Int → Int → Bool → Option (Int × Int × Int)
  | 0, _, _, _, _, _ => none
  | k + 1, x0, x3, x5, x6, x19 => if x19 = true then (some (0, 0, 7)) else (if 0 ≤ (wrap64 (7 * x3)) then (if x6 ≥ 128 then (num_Take.l0 k x0 (wrap64 (x3 + 1)) (Go.bits .or .u64 x5 (shl .u64 (IntKind.u64.wrap (Go.bits .and .u8 x6 127)) (wrap64 (7 * x3))))) else (if x6 = 0 then (if (wrap64 (x3 + 1)) > 1 then (some (0, 0, 7)) else ((num_back.f (Go.bits .or .u64 x5 (shl .u64 (IntKind.u64.wrap (Go.bits .and .u8 x6 127)) (wrap64 (7 * x3))))).bind fun t137 => (some (t137, wrap64 (x3 + 1), 0)))) else ((num_back.f (Go.bits .or .u64 x5 (shl .u64 (IntKind.u64.wrap (Go.bits .and .u8 x6 127)) (wrap64 (7 * x3))))).bind fun t138 => (some (t138, wrap64 (x3 + 1), 0))))) else (none))
end
def num_Take.f (k : Nat) (a0 : ByteArray) : Option (Int × Int × Int) := num_Take.l0 k a0 0 0
set_option maxHeartbeats 8000000 in
set_option maxRecDepth 100000 in
theorem num_Take.calls (k : Nat) (a0 : ByteArray) (r1 : Int) (r2 : Int) (r3 : Int) (w : World) (h : num_Take.f k a0 = some (r1, r2, r3)) :
    Calls Try.prog 28 #[.string a0] w fun e w' => e = .returned (.tuple #[.int .i64 r1, .int .i64 r2, .int .i64 r3]) ∧ Drawn0 w w' := by
  have H : (num_Take.l0 k a0 0 0) = some (r1, r2, r3) := h
  clear h
  have H' := Aside0.mk H
  clear H
  go_enter Try.func28, Try.ntmps28
  go_wp2
  go_loopg [3, 5] k (fun kq v3 v5 w' => ∃ (x3_1 : Int) (x5_1 : Int), v3 = .int .i64 x3_1 ∧ v5 = .int .u64 x5_1 ∧ Aside0 (num_Take.l0 kq a0 x3_1 x5_1 = some (r1, r2, r3)) ∧ Aside0 (kq ≤ k) ∧ Drawn0 w w')
  case atStart => exact ⟨(0), (0), (by first | rfl | (simp; done) | (simp [*]; done)), (by first | rfl | (simp; done) | (simp [*]; done)), H', ⟨Nat.le_refl _⟩, by repeat (first | exact Drawn0.refl _ | apply Drawn0.step)⟩
  case round =>
    clear H'
    obtain ⟨x3_1, x5_1, rfl, rfl, HA, HK1, ⟨m1, rfl⟩⟩ := hrel
    cases gk with
    | zero => exact absurd HA.out (by simp [num_Take.l0])
    | succ k1 =>
      have H := HA.out
      clear HA
      simp only [num_Take.l0] at H
      by_cases c2 : x3_1 < (a0.size : Int)
      · rw [if_pos c2] at H
        have c2b0 : decide (x3_1 < (a0.size : Int)) = true := decide_eq_true c2
        clear c2
        by_cases c3 : 0 ≤ x3_1
        · rw [if_pos c3] at H
          have c3b0 : decide (0 ≤ x3_1) = true := decide_eq_true c3
          clear c3
          have HC5 := Aside0.mk H
          clear H
          have p4 : 0 ≤ (x3_1 : Int) := of_decide_eq_true (by first | (with_reducible assumption) | assumption)
          have q4 : x3_1 < (a0.size : Int) := of_decide_eq_true (by first | (with_reducible assumption) | assumption)
          have hx4 := bt_at a0 x3_1
          replace p4 := eq_true p4
          replace q4 := eq_true q4
          go_upto_region 4 with (fail)
          go_cut [19] (fun v19 wc => ∃ (kq : Nat) (x19_4 : Bool), v19 = .bool x19_4 ∧ Aside0 (num_Take.j1 kq a0 x3_1 x5_1 (bt a0 x3_1) x19_4 = some (r1, r2, r3)) ∧ Aside0 (kq ≤ k1) ∧ Drawn0 w wc)
          case first =>
            have H := HC5.out
            clear HC5
            by_cases c6 : x3_1 = 9
            · rw [if_pos c6] at H
              have c6b0 : (x3_1 == 9) = true := beq_iff_eq.mpr c6
              have c6b1 : (x3_1 != 9) = false := bne_eq_false_iff_eq.mpr c6
              clear c6
              (first | rw [c6b0] | (simp only [i64_w, i32_w]; rw [c6b0]) | skip)
              have H' := Aside0.mk H
              clear H
              go_wp2
              go_meet
              case rel => exact ⟨_, (decide ((bt a0 x3_1) > 1)), (by first | rfl | (simp; done) | (simp [*]; done)), H', ⟨by have := HK1.out; first | omega | exact Nat.le_refl _⟩, by repeat (first | exact Drawn0.refl _ | apply Drawn0.step)⟩
            · rw [if_neg c6] at H
              have c6b0 : (x3_1 == 9) = false := beq_eq_false_iff_ne.mpr c6
              have c6b1 : (x3_1 != 9) = true := bne_iff_ne.mpr c6
              (first | rw [c6b0] | (simp only [i64_w, i32_w]; rw [c6b0]) | skip)
              have H' := Aside0.mk H
              clear H
              go_wp2
              go_meet
              case rel => exact ⟨_, (false), (by first | rfl | (simp; done) | (simp [*]; done)), H', ⟨by have := HK1.out; first | omega | exact Nat.le_refl _⟩, by repeat (first | exact Drawn0.refl _ | apply Drawn0.step)⟩
          case rest =>
            clear HC5
            (try clear c2); (try clear c2b0); (try clear p2); (try clear c3); (try clear c3b0); (try clear p4); (try clear q4); (try clear hx4); (try clear c6); (try clear c6b0); (try clear c6b1); (try clear p4); (try clear q4)
            obtain ⟨kq, x19_4, rfl, HA, HJ4, ⟨mc4, rfl⟩⟩ := hcut
            cases kq with
            | zero => exact absurd HA.out (by simp [num_Take.j1])
            | succ kj4 =>
              have H := HA.out
              clear HA
              simp only [num_Take.j1] at H
              by_cases c7 : x19_4 = true
              · subst c7
                have H1 : (some (0, 0, 7)) = some (r1, r2, r3) := by rw [if_pos rfl] at H; exact H
                clear H
                have H := H1
                clear H1
                simp only [Option.some.injEq, Prod.mk.injEq] at H
                obtain ⟨rfl, rfl, rfl⟩ := H
                go_wp2
                go_ret3
                exact ⟨by first | rfl | (simp; done) | (simp [*]; done), by repeat (first | exact Drawn0.refl _ | apply Drawn0.step)⟩
              · replace c7 := Bool.eq_false_iff.mpr c7
                subst c7
                have H1 : (if 0 ≤ (wrap64 (7 * x3_1)) then (if (bt a0 x3_1) ≥ 128 then (num_Take.l0 kj4 a0 (wrap64 (x3_1 + 1)) (Go.bits .or .u64 x5_1 (shl .u64 (IntKind.u64.wrap (Go.bits .and .u8 (bt a0 x3_1) 127)) (wrap64 (7 * x3_1))))) else (if (bt a0 x3_1) = 0 then (if (wrap64 (x3_1 + 1)) > 1 then (some (0, 0, 7)) else ((num_back.f (Go.bits .or .u64 x5_1 (shl .u64 (IntKind.u64.wrap (Go.bits .and .u8 (bt a0 x3_1) 127)) (wrap64 (7 * x3_1))))).bind fun t137 => (some (t137, wrap64 (x3_1 + 1), 0)))) else ((num_back.f (Go.bits .or .u64 x5_1 (shl .u64 (IntKind.u64.wrap (Go.bits .and .u8 (bt a0 x3_1) 127)) (wrap64 (7 * x3_1))))).bind fun t138 => (some (t138, wrap64 (x3_1 + 1), 0))))) else (none)) = some (r1, r2, r3) := by rw [if_neg (show ¬ (false = true) by decide)] at H; exact H
                clear H
                have H := H1
                clear H1
                obtain ⟨ji8, hji8⟩ : ∃ j_ : Int, (wrap64 (7 * x3_1)) = j_ := ⟨_, rfl⟩
                replace H : (if 0 ≤ (ji8) then (if (bt a0 x3_1) ≥ 128 then (num_Take.l0 kj4 a0 (wrap64 (x3_1 + 1)) (Go.bits .or .u64 x5_1 (shl .u64 (IntKind.u64.wrap (Go.bits .and .u8 (bt a0 x3_1) 127)) (ji8)))) else (if (bt a0 x3_1) = 0 then (if (wrap64 (x3_1 + 1)) > 1 then (some (0, 0, 7)) else ((num_back.f (Go.bits .or .u64 x5_1 (shl .u64 (IntKind.u64.wrap (Go.bits .and .u8 (bt a0 x3_1) 127)) (ji8)))).bind fun t137 => (some (t137, wrap64 (x3_1 + 1), 0)))) else ((num_back.f (Go.bits .or .u64 x5_1 (shl .u64 (IntKind.u64.wrap (Go.bits .and .u8 (bt a0 x3_1) 127)) (ji8)))).bind fun t138 => (some (t138, wrap64 (x3_1 + 1), 0))))) else (none)) = some (r1, r2, r3) := by first | (rw [hji8] at H; exact H) | (simp only [hji8] at H ⊢; exact H)
                have hji8w : (IntKind.i64.wrap (7 * x3_1)) = ji8 := (i64_w _).trans hji8
                by_cases c9 : 0 ≤ (ji8)
                · rw [if_pos c9] at H
                  have c9b0 := eq_true c9
                  have c9b1 : decide (0 ≤ (ji8)) = true := decide_eq_true c9
                  clear c9
                  obtain ⟨ji10, hji10⟩ : ∃ j_ : Int, (shl .u64 (IntKind.u64.wrap (Go.bits .and .u8 (bt a0 x3_1) 127)) (ji8)) = j_ := ⟨_, rfl⟩
                  replace H : (if (bt a0 x3_1) ≥ 128 then (num_Take.l0 kj4 a0 (wrap64 (x3_1 + 1)) (Go.bits .or .u64 x5_1 (ji10))) else (if (bt a0 x3_1) = 0 then (if (wrap64 (x3_1 + 1)) > 1 then (some (0, 0, 7)) else ((num_back.f (Go.bits .or .u64 x5_1 (ji10))).bind fun t137 => (some (t137, wrap64 (x3_1 + 1), 0)))) else ((num_back.f (Go.bits .or .u64 x5_1 (ji10))).bind fun t138 => (some (t138, wrap64 (x3_1 + 1), 0))))) = some (r1, r2, r3) := by first | (rw [hji10] at H; exact H) | (simp only [hji10] at H ⊢; exact H)
                  have hji10_ : (IntKind.u64.wrap ((IntKind.u64.wrap (Go.bits .and .u8 (bt a0 x3_1) 127)) * 2 ^ min (ji8).toNat 64)) = ji10 := hji10
                  have hji10z : (ji8) ≤ 64 → (IntKind.u64.wrap ((IntKind.u64.wrap (Go.bits .and .u8 (bt a0 x3_1) 127)) * 2 ^ (ji8).toNat)) = ji10 := shl_small hji10
                  by_cases c11 : (bt a0 x3_1) ≥ 128
                  · rw [if_pos c11] at H
                    have c11b0 : decide (128 ≤ (bt a0 x3_1)) = true := decide_eq_true c11
                    clear c11
                    have H' := Aside0.mk H
                    clear H
                    go_wp2
                    go_roundg kj4
                    case measure => have := HK1.out; have := HJ4.out; omega
                    case rel => exact ⟨(wrap64 (x3_1 + 1)), (Go.bits .or .u64 x5_1 (ji10)), (by first | rfl | (simp; done) | (simp [*]; done)), (by first | rfl | (simp; done) | (simp only [← hji10] <;> (first | rfl | simp)) | (simp [*]; done)), H', ⟨by have := HK1.out; have := HJ4.out; omega⟩, by repeat (first | exact Drawn0.refl _ | apply Drawn0.step)⟩
                  · rw [if_neg c11] at H
                    have c11b0 : decide (128 ≤ (bt a0 x3_1)) = false := decide_eq_false c11
                    clear c11
                    by_cases c12 : (bt a0 x3_1) = 0
                    · rw [if_pos c12] at H
                      have c12b0 : ((bt a0 x3_1) == 0) = true := beq_iff_eq.mpr c12
                      have c12b1 : ((bt a0 x3_1) != 0) = false := bne_eq_false_iff_eq.mpr c12
                      clear c12
                      by_cases c13 : (wrap64 (x3_1 + 1)) > 1
                      · rw [if_pos c13] at H
                        have c13b0 : decide (1 < (wrap64 (x3_1 + 1))) = true := decide_eq_true c13
                        clear c13
                        simp only [Option.some.injEq, Prod.mk.injEq] at H
                        obtain ⟨rfl, rfl, rfl⟩ := H
                        go_wp2
                        go_ret3
                        exact ⟨by first | rfl | (simp; done) | (simp only [← hji8, ← hji10] <;> (first | rfl | simp)) | (simp [*]; done), by repeat (first | exact Drawn0.refl _ | apply Drawn0.step)⟩
                      · rw [if_neg c13] at H
                        have c13b0 : decide (1 < (wrap64 (x3_1 + 1))) = false := decide_eq_false c13
                        clear c13
                        replace H := Option.bind_eq_some_iff.mp H
                        obtain ⟨t137, A140, H⟩ := H
                        replace H : (some (t137, wrap64 (x3_1 + 1), 0)) = some (r1, r2, r3) := H
                        have A14 := Aside0.mk A140
                        clear A140
                        simp only [Option.some.injEq, Prod.mk.injEq] at H
                        obtain ⟨rfl, rfl, rfl⟩ := H
                        go_wp2_with (first | ((with_reducible refine gate_callee (f := 43) rfl ?_); refine goesL_ (some 39) rfl rfl Try.func43 (by kernel_rfl) rfl #[.int .u64 (Go.bits .or .u64 x5_1 (ji10))] rfl (by (try simp only [List.map_toArray, List.map_cons, List.map_nil]); first | done | (simp only [hji10]; rfl) | rfl | (simp only [List.length_drop, List.length_take]; rfl)) ?_; (with_reducible refine (num_back.calls (Go.bits .or .u64 x5_1 (ji10)) t137 _ A14.out).mono ?_); rintro e w' ⟨rfl, ⟨nd, rfl⟩⟩; refine ⟨_, rfl, ?_⟩))
                        go_ret3
                        exact ⟨by first | rfl | (simp; done) | (simp only [← hji8, ← hji10] <;> (first | rfl | simp)) | (simp [*]; done), by repeat (first | exact Drawn0.refl _ | apply Drawn0.step)⟩
                    · rw [if_neg c12] at H
                      have c12b0 : ((bt a0 x3_1) == 0) = false := beq_eq_false_iff_ne.mpr c12
                      have c12b1 : ((bt a0 x3_1) != 0) = true := bne_iff_ne.mpr c12
                      replace H := Option.bind_eq_some_iff.mp H
                      obtain ⟨t138, A150, H⟩ := H
                      replace H : (some (t138, wrap64 (x3_1 + 1), 0)) = some (r1, r2, r3) := H
                      have A15 := Aside0.mk A150
                      clear A150
                      simp only [Option.some.injEq, Prod.mk.injEq] at H
                      obtain ⟨rfl, rfl, rfl⟩ := H
                      go_wp2_with (first | ((with_reducible refine gate_callee (f := 43) rfl ?_); refine goesL_ (some 39) rfl rfl Try.func43 (by kernel_rfl) rfl #[.int .u64 (Go.bits .or .u64 x5_1 (ji10))] rfl (by (try simp only [List.map_toArray, List.map_cons, List.map_nil]); first | done | (simp only [hji10]; rfl) | rfl | (simp only [List.length_drop, List.length_take]; rfl)) ?_; (with_reducible refine (num_back.calls (Go.bits .or .u64 x5_1 (ji10)) t138 _ A15.out).mono ?_); rintro e w' ⟨rfl, ⟨nd, rfl⟩⟩; refine ⟨_, rfl, ?_⟩))
                      go_ret3
                      exact ⟨by first | rfl | (simp; done) | (simp only [← hji8, ← hji10] <;> (first | rfl | simp)) | (simp [*]; done), by repeat (first | exact Drawn0.refl _ | apply Drawn0.step)⟩
                · rw [if_neg c9] at H
                  exact absurd H (by simp)
        · rw [if_neg c3] at H
          exact absurd H (by simp)
      · rw [if_neg c2] at H
        have c2b0 : decide (x3_1 < (a0.size : Int)) = false := decide_eq_false c2
        clear c2
        simp only [Option.some.injEq, Prod.mk.injEq] at H
        obtain ⟨rfl, rfl, rfl⟩ := H
        go_wp2
        go_ret3
        exact ⟨by first | rfl | (simp; done) | (simp [*]; done), by repeat (first | exact Drawn0.refl _ | apply Drawn0.step)⟩

/-! ### msg_Take: function 15 -/
/-- So many numbers, one behind the other: the numbers, what is left, the error. -/
def msg_Take.go (k : Nat) : Nat → ByteArray → List Int → Option (List Int × ByteArray × Int)
  | 0, s, l => some (l, s, 0)
  | m + 1, s, l => (num_Take.f k s).bind fun t => if t.2.2 = 0 then (if 0 ≤ t.2.1 then (if t.2.1 ≤ (s.size : Int) then msg_Take.go k m (s.extract t.2.1.toNat s.size) (l ++ [t.1]) else none) else none) else some ([], s, t.2.2)
def msg_Take.fin (k : Nat) (t : List Int × ByteArray × Int) : Option (Int × Int × Int × Int × Int × Int × Int × Int × Int × Int × ByteArray × Int) := if rd t.1 8 % 4294967296 = rd t.1 8 then ((msg_Check.f k (rd t.1 0) (rd t.1 1) (rd t.1 2) (rd t.1 3) (rd t.1 4) (rd t.1 5) (rd t.1 6) (rd t.1 7) (((rd t.1 8)) % 4294967296) (rd t.1 9) t.2.1).bind fun c => if c = 0 then some (rd t.1 0, rd t.1 1, rd t.1 2, rd t.1 3, rd t.1 4, rd t.1 5, rd t.1 6, rd t.1 7, (((rd t.1 8)) % 4294967296), rd t.1 9, t.2.1, 0) else some (0, 0, 0, 0, 0, 0, 0, 0, 0, 0, ⟨#[]⟩, 7)) else some (0, 0, 0, 0, 0, 0, 0, 0, 0, 0, ⟨#[]⟩, 7)
def msg_Take.f (k : Nat) (a0 : ByteArray) : Option (Int × Int × Int × Int × Int × Int × Int × Int × Int × Int × ByteArray × Int) := (frame_Take.f k a0).bind fun u => if u.2.2 = 0 then (if u.2.1 < (a0.size : Int) then some (0, 0, 0, 0, 0, 0, 0, 0, 0, 0, ⟨#[]⟩, 7) else (msg_Take.go k 10 u.1 []).bind fun t => if t.2.2 = 0 then msg_Take.fin k t else some (0, 0, 0, 0, 0, 0, 0, 0, 0, 0, ⟨#[]⟩, t.2.2)) else some (0, 0, 0, 0, 0, 0, 0, 0, 0, 0, ⟨#[]⟩, u.2.2)
/-- An array of ten numbers, the first ones laid. -/
def msg_Take.arr (l : List Int) : List Value := (l.map (Value.int .i64)) ++ List.replicate (10 - l.length) (.int .i64 0)
theorem msg_Take.arr_set (l : List Int) (v : Int) (h : l.length < 10) : (msg_Take.arr l).toArray.setIfInBounds l.length (.int .i64 v) = (msg_Take.arr (l ++ [v])).toArray := by
  obtain ⟨d, hd⟩ : ∃ d, 10 - l.length = d + 1 := ⟨9 - l.length, by omega⟩
  have hd2 : 10 - (l ++ [v]).length = d := by simp; omega
  unfold msg_Take.arr
  rw [hd, hd2, List.setIfInBounds_toArray, List.replicate_succ, List.map_append]
  congr 1
  rw [List.set_append, if_neg (by simp)]
  simp
set_option maxHeartbeats 16000000 in
set_option maxRecDepth 100000 in
theorem msg_Take.calls (k : Nat) (a0 : ByteArray) (r1 r2 r3 r4 r5 r6 r7 r8 r9 r10 : Int) (r11 : ByteArray) (r12 : Int) (w : World) (h : msg_Take.f k a0 = some (r1, r2, r3, r4, r5, r6, r7, r8, r9, r10, r11, r12)) :
    Calls Try.prog 15 #[.string a0] w fun e w' => e = .returned (.tuple #[.agg #[.int .i64 r1, .int .i64 r2, .int .i64 r3, .int .i64 r4, .int .i64 r5, .int .i64 r6, .int .i64 r7, .int .i64 r8, .int .u32 r9, .int .i64 r10, .string r11], .int .i64 r12]) ∧ Below w.heap.size w w' := by
  have hu26 := Try.underlying29
  have HB := Aside0.mk (Below.refl w.heap.size w)
  obtain ⟨⟨t, n, e0⟩, hF, H⟩ := Option.bind_eq_some_iff.mp h
  have AF := Aside0.mk hF
  clear h hF
  simp only at H
  by_cases hz : e0 = 0
  case neg =>
    rw [if_neg hz] at H
    obtain ⟨rfl, rfl, rfl, rfl, rfl, rfl, rfl, rfl, rfl, rfl, rfl, rfl⟩ : 0 = r1 ∧ 0 = r2 ∧ 0 = r3 ∧ 0 = r4 ∧ 0 = r5 ∧ 0 = r6 ∧ 0 = r7 ∧ 0 = r8 ∧ 0 = r9 ∧ 0 = r10 ∧ ⟨#[]⟩ = r11 ∧ e0 = r12 := by simpa using H
    clear H
    have hz1 : (e0 == 0) = false := beq_eq_false_iff_ne.mpr hz
    have hz2 : (e0 != 0) = true := bne_iff_ne.mpr hz
    clear hz
    go_enter Try.func15, Try.ntmps15
    go_wp2_with (first | (go_at_call 27; refine (frame_Take.calls k a0 t n e0 _ AF.out).mono ?_; rintro e w' ⟨rfl, ⟨nd0, rfl⟩⟩; have BR0 := Aside0.mk (blk_drewN (blk_new w (.cells #[.int .i64 0, .int .i64 0, .int .i64 0, .int .i64 0, .int .i64 0, .int .i64 0, .int .i64 0, .int .i64 0, .int .u32 0, .int .i64 0, .string ⟨#[]⟩] 29 (0, 0))) nd0); have hfz := fun i_ => blk_frozen BR0.out i_; obtain ⟨hc0, hc1, hc2, hc3, hc4, hc5, hc6, hc7, hc8, hc9, hc10⟩ := cells11 BR0.out))
    refine nest11 (C := fun w' => bodyPost Try.prog Try.f15 _ Exit.ret _ w') (BR0.out) rfl ?_
    intro w9 h9 hb9
    refine bodyPost_ret (results_ct rfl _ _ w.heap.size 29 #[.int .i64 0, .int .i64 0, .int .i64 0, .int .i64 0, .int .i64 0, .int .i64 0, .int .i64 0, .int .i64 0, .int .u32 0, .int .i64 0, .string ⟨#[]⟩] (0, 0) _ rfl h9 Try.underlying29 rfl (by kernel_rfl)) rfl ?_
    exact ⟨rfl, hb9 _ _ (by repeat (first | exact HB.out | apply pw_below_drewN | apply below_alloc)) (Nat.le_refl _)⟩
  subst hz
  rw [if_pos rfl] at H
  by_cases hn : n < (a0.size : Int)
  case pos =>
    rw [if_pos hn] at H
    obtain ⟨rfl, rfl, rfl, rfl, rfl, rfl, rfl, rfl, rfl, rfl, rfl, rfl⟩ : 0 = r1 ∧ 0 = r2 ∧ 0 = r3 ∧ 0 = r4 ∧ 0 = r5 ∧ 0 = r6 ∧ 0 = r7 ∧ 0 = r8 ∧ 0 = r9 ∧ 0 = r10 ∧ ⟨#[]⟩ = r11 ∧ 7 = r12 := by simpa using H
    clear H
    have hn1 : decide (n < (a0.size : Int)) = true := decide_eq_true hn
    clear hn
    go_enter Try.func15, Try.ntmps15
    go_wp2_with (first | (go_at_call 27; refine (frame_Take.calls k a0 t n 0 _ AF.out).mono ?_; rintro e w' ⟨rfl, ⟨nd0, rfl⟩⟩; have BR0 := Aside0.mk (blk_drewN (blk_new w (.cells #[.int .i64 0, .int .i64 0, .int .i64 0, .int .i64 0, .int .i64 0, .int .i64 0, .int .i64 0, .int .i64 0, .int .u32 0, .int .i64 0, .string ⟨#[]⟩] 29 (0, 0))) nd0); have hfz := fun i_ => blk_frozen BR0.out i_; obtain ⟨hc0, hc1, hc2, hc3, hc4, hc5, hc6, hc7, hc8, hc9, hc10⟩ := cells11 BR0.out))
    refine nest11 (C := fun w' => bodyPost Try.prog Try.f15 _ Exit.ret _ w') (BR0.out) rfl ?_
    intro w9 h9 hb9
    refine bodyPost_ret (results_ct rfl _ _ w.heap.size 29 #[.int .i64 0, .int .i64 0, .int .i64 0, .int .i64 0, .int .i64 0, .int .i64 0, .int .i64 0, .int .i64 0, .int .u32 0, .int .i64 0, .string ⟨#[]⟩] (0, 0) _ rfl h9 Try.underlying29 rfl (by kernel_rfl)) rfl ?_
    exact ⟨rfl, hb9 _ _ (by repeat (first | exact HB.out | apply pw_below_drewN | apply below_alloc)) (Nat.le_refl _)⟩
  rw [if_neg hn] at H
  have hn1 : decide (n < (a0.size : Int)) = false := decide_eq_false hn
  clear hn
  obtain ⟨⟨l, s', e⟩, hgo, H⟩ := Option.bind_eq_some_iff.mp H
  have HGO := Aside0.mk hgo
  have H' := Aside0.mk H
  clear hgo H
  simp only at H'
  go_enter Try.func15, Try.ntmps15
  go_wp2_with (first | (go_at_call 27; refine (frame_Take.calls k a0 t n 0 _ AF.out).mono ?_; rintro e w' ⟨rfl, ⟨nd0, rfl⟩⟩))
  go_loopg [4, 30] 10 (fun m v_a v_b w' => ∃ (s : ByteArray) (l0 : List Int), v_a = .string s ∧ v_b = .int .i64 (l0.length : Int) ∧ Aside0 (l0.length + m = 10) ∧ Aside0 (msg_Take.go k m s l0 = some (l, s', e)) ∧ Aside0 (Below w.heap.size w w') ∧ Aside0 (w'.heap[w.heap.size]? = some (.cells #[.int .i64 0, .int .i64 0, .int .i64 0, .int .i64 0, .int .i64 0, .int .i64 0, .int .i64 0, .int .i64 0, .int .u32 0, .int .i64 0, .string ⟨#[]⟩] 29 (0, 0))) ∧ Aside0 (w'.heap[w.heap.size + 1]? = some (.cells (msg_Take.arr l0).toArray 51 (0, 0))))
  case atStart =>
    refine ⟨t, [], rfl, rfl, ⟨rfl⟩, HGO, ⟨?_⟩, ⟨?_⟩, ⟨?_⟩⟩
    · exact below_alloc (pw_below_drewN (below_alloc HB.out _) _) _
    · exact blk_alloc (blk_drewN (blk_new w _) _) _
    · have := blk_new ((w.alloc (.cells #[.int .i64 0, .int .i64 0, .int .i64 0, .int .i64 0, .int .i64 0, .int .i64 0, .int .i64 0, .int .i64 0, .int .u32 0, .int .i64 0, .string ⟨#[]⟩] 29 (0, 0))).drewN nd0) (.cells #[.int .i64 0, .int .i64 0, .int .i64 0, .int .i64 0, .int .i64 0, .int .i64 0, .int .i64 0, .int .i64 0, .int .i64 0, .int .i64 0] 51 (0, 0))
      simpa [msg_Take.arr, World.drewN] using this
  case round =>
    clear HGO
    obtain ⟨s, l0, rfl, rfl, HL, HGO, HB, BR, BA⟩ := hrel
    cases gk with
    | zero =>
      have h4 : l0.length = 10 := by have := HL.out; omega
      have H := HGO.out
      clear HGO HL
      obtain ⟨rfl, rfl, rfl⟩ : l0 = l ∧ s = s' ∧ 0 = e := by simpa [msg_Take.go] using H
      clear H
      obtain ⟨v0, v1, v2, v3, v4, v5, v6, v7, v8, v9, rfl⟩ : ∃ v0 v1 v2 v3 v4 v5 v6 v7 v8 v9, l0 = [v0, v1, v2, v3, v4, v5, v6, v7, v8, v9] := by
        match l0, h4 with
        | [v0, v1, v2, v3, v4, v5, v6, v7, v8, v9], _ => exact ⟨v0, v1, v2, v3, v4, v5, v6, v7, v8, v9, rfl⟩
      have BA2 : Aside0 (wr.heap[w.heap.size + 1]? = some (.cells #[.int .i64 v0, .int .i64 v1, .int .i64 v2, .int .i64 v3, .int .i64 v4, .int .i64 v5, .int .i64 v6, .int .i64 v7, .int .i64 v8, .int .i64 v9] 51 (0, 0))) := ⟨BA.out⟩
      clear BA
      have HR := H'.out
      clear H' h4
      rw [if_pos rfl] at HR
      replace HR : (if v8 % 4294967296 = v8 then ((msg_Check.f k v0 v1 v2 v3 v4 v5 v6 v7 (v8 % 4294967296) v9 s).bind fun c => if c = 0 then some (v0, v1, v2, v3, v4, v5, v6, v7, v8 % 4294967296, v9, s, 0) else some (0, 0, 0, 0, 0, 0, 0, 0, 0, 0, ⟨#[]⟩, 7)) else some (0, 0, 0, 0, 0, 0, 0, 0, 0, 0, ⟨#[]⟩, 7)) = some (r1, r2, r3, r4, r5, r6, r7, r8, r9, r10, r11, r12) := HR
      obtain ⟨hd0, hd1, hd2, hd3, hd4, hd5, hd6, hd7, hd8, hd9⟩ := cells10 BA2.out
      by_cases hq : v8 % 4294967296 = v8
      case neg =>
        rw [if_neg hq] at HR
        obtain ⟨rfl, rfl, rfl, rfl, rfl, rfl, rfl, rfl, rfl, rfl, rfl, rfl⟩ : 0 = r1 ∧ 0 = r2 ∧ 0 = r3 ∧ 0 = r4 ∧ 0 = r5 ∧ 0 = r6 ∧ 0 = r7 ∧ 0 = r8 ∧ 0 = r9 ∧ 0 = r10 ∧ ⟨#[]⟩ = r11 ∧ 7 = r12 := by simpa using HR
        clear HR
        have hq1 : (v8 % 4294967296 == v8) = false := beq_eq_false_iff_ne.mpr hq
        have hq2 : (v8 % 4294967296 != v8) = true := bne_iff_ne.mpr hq
        clear hq
        have BA5 := Aside0.mk (blk_alloc BA2.out (.cells #[.int .i64 v0, .int .i64 v1, .int .i64 v2, .int .i64 v3, .int .i64 v4, .int .i64 v5, .int .i64 v6, .int .i64 v7, .int .u32 (v8 % 4294967296), .int .i64 v9, .string s] 29 (0, 0)))
        obtain ⟨hy0, hy1, hy2, hy3, hy4, hy5, hy6, hy7, hy8, hy9⟩ := cells10 BA5.out
        have BR5 := Aside0.mk (blk_alloc BR.out (.cells #[.int .i64 v0, .int .i64 v1, .int .i64 v2, .int .i64 v3, .int .i64 v4, .int .i64 v5, .int .i64 v6, .int .i64 v7, .int .u32 (v8 % 4294967296), .int .i64 v9, .string s] 29 (0, 0)))
        have hfz := fun i_ => blk_frozen BR5.out i_
        obtain ⟨hx0, hx1, hx2, hx3, hx4, hx5, hx6, hx7, hx8, hx9, hx10⟩ := cells11 BR5.out
        go_wp2_with fail
        refine nest11 (C := fun w' => bodyPost Try.prog Try.f15 _ Exit.ret _ w') (BR5.out) rfl ?_
        intro w9 h9 hb9
        refine bodyPost_ret (results_ct rfl _ _ w.heap.size 29 #[.int .i64 0, .int .i64 0, .int .i64 0, .int .i64 0, .int .i64 0, .int .i64 0, .int .i64 0, .int .i64 0, .int .u32 0, .int .i64 0, .string ⟨#[]⟩] (0, 0) _ rfl h9 Try.underlying29 rfl (by kernel_rfl)) rfl ?_
        exact ⟨rfl, hb9 _ _ (by repeat (first | exact HB.out | apply pw_below_drewN | apply below_alloc)) (Nat.le_refl _)⟩
      rw [if_pos hq] at HR
      replace HR := Option.bind_eq_some_iff.mp HR
      obtain ⟨c, hC, HR⟩ := HR
      have A : Aside0 (msg_Check.f k v0 v1 v2 v3 v4 v5 v6 v7 (v8 % 4294967296) v9 s = some c) := ⟨hC⟩
      clear hC
      by_cases hc : c = 0
      · rw [if_pos hc] at HR
        obtain ⟨rfl, rfl, rfl, rfl, rfl, rfl, rfl, rfl, rfl, rfl, rfl, rfl⟩ : v0 = r1 ∧ v1 = r2 ∧ v2 = r3 ∧ v3 = r4 ∧ v4 = r5 ∧ v5 = r6 ∧ v6 = r7 ∧ v7 = r8 ∧ (v8 % 4294967296) = r9 ∧ v9 = r10 ∧ s = r11 ∧ 0 = r12 := by simpa using HR
        clear HR
        have hq1 : (v8 % 4294967296 == v8) = true := beq_iff_eq.mpr hq
        have hq2 : (v8 % 4294967296 != v8) = false := bne_eq_false_iff_eq.mpr hq
        clear hq
        have hc1 : (c == 0) = true := beq_iff_eq.mpr hc
        have hc2 : (c != 0) = false := bne_eq_false_iff_eq.mpr hc
        clear hc
        have BA5 := Aside0.mk (blk_alloc BA2.out (.cells #[.int .i64 v0, .int .i64 v1, .int .i64 v2, .int .i64 v3, .int .i64 v4, .int .i64 v5, .int .i64 v6, .int .i64 v7, .int .u32 (v8 % 4294967296), .int .i64 v9, .string s] 29 (0, 0)))
        obtain ⟨hy0, hy1, hy2, hy3, hy4, hy5, hy6, hy7, hy8, hy9⟩ := cells10 BA5.out
        go_wp2_with (first | (go_at_call 24; refine (msg_Check.calls k v0 v1 v2 v3 v4 v5 v6 v7 (v8 % 4294967296) v9 s _ _ A.out).mono ?_; rintro e w5 ⟨rfl, hb⟩; have HB5 := Aside0.mk (below_step (below_alloc HB.out _) hb); have BE5 := Aside0.mk (blk_below (blk_new wr _) hb); have BR5 := Aside0.mk (blk_below (blk_alloc BR.out _) hb); have hfz := fun i_ => blk_frozen BR5.out i_; obtain ⟨he0, he1, he2, he3, he4, he5, he6, he7, he8, he9, he10⟩ := cells11 BE5.out; obtain ⟨hx0, hx1, hx2, hx3, hx4, hx5, hx6, hx7, hx8, hx9, hx10⟩ := cells11 BR5.out; clear hb))
        refine nest11 (C := fun w' => bodyPost Try.prog Try.f15 _ Exit.ret _ w') (BR5.out) rfl ?_
        intro w9 h9 hb9
        refine bodyPost_ret (results_ct rfl _ _ w.heap.size 29 #[.int .i64 v0, .int .i64 v1, .int .i64 v2, .int .i64 v3, .int .i64 v4, .int .i64 v5, .int .i64 v6, .int .i64 v7, .int .u32 (v8 % 4294967296), .int .i64 v9, .string s] (0, 0) _ rfl h9 Try.underlying29 rfl (by kernel_rfl)) rfl ?_
        exact ⟨rfl, hb9 _ _ (by repeat (first | exact HB5.out | apply pw_below_drewN | apply below_alloc)) (Nat.le_refl _)⟩
      · rw [if_neg hc] at HR
        obtain ⟨rfl, rfl, rfl, rfl, rfl, rfl, rfl, rfl, rfl, rfl, rfl, rfl⟩ : 0 = r1 ∧ 0 = r2 ∧ 0 = r3 ∧ 0 = r4 ∧ 0 = r5 ∧ 0 = r6 ∧ 0 = r7 ∧ 0 = r8 ∧ 0 = r9 ∧ 0 = r10 ∧ ⟨#[]⟩ = r11 ∧ 7 = r12 := by simpa using HR
        clear HR
        have hq1 : (v8 % 4294967296 == v8) = true := beq_iff_eq.mpr hq
        have hq2 : (v8 % 4294967296 != v8) = false := bne_eq_false_iff_eq.mpr hq
        clear hq
        have hc1 : (c == 0) = false := beq_eq_false_iff_ne.mpr hc
        have hc2 : (c != 0) = true := bne_iff_ne.mpr hc
        clear hc
        have BA5 := Aside0.mk (blk_alloc BA2.out (.cells #[.int .i64 v0, .int .i64 v1, .int .i64 v2, .int .i64 v3, .int .i64 v4, .int .i64 v5, .int .i64 v6, .int .i64 v7, .int .u32 (v8 % 4294967296), .int .i64 v9, .string s] 29 (0, 0)))
        obtain ⟨hy0, hy1, hy2, hy3, hy4, hy5, hy6, hy7, hy8, hy9⟩ := cells10 BA5.out
        go_wp2_with (first | (go_at_call 24; refine (msg_Check.calls k v0 v1 v2 v3 v4 v5 v6 v7 (v8 % 4294967296) v9 s _ _ A.out).mono ?_; rintro e w5 ⟨rfl, hb⟩; have HB5 := Aside0.mk (below_step (below_alloc HB.out _) hb); have BE5 := Aside0.mk (blk_below (blk_new wr _) hb); have BR5 := Aside0.mk (blk_below (blk_alloc BR.out _) hb); have hfz := fun i_ => blk_frozen BR5.out i_; obtain ⟨he0, he1, he2, he3, he4, he5, he6, he7, he8, he9, he10⟩ := cells11 BE5.out; obtain ⟨hx0, hx1, hx2, hx3, hx4, hx5, hx6, hx7, hx8, hx9, hx10⟩ := cells11 BR5.out; clear hb))
        refine nest11 (C := fun w' => bodyPost Try.prog Try.f15 _ Exit.ret _ w') (BR5.out) rfl ?_
        intro w9 h9 hb9
        refine bodyPost_ret (results_ct rfl _ _ w.heap.size 29 #[.int .i64 0, .int .i64 0, .int .i64 0, .int .i64 0, .int .i64 0, .int .i64 0, .int .i64 0, .int .i64 0, .int .u32 0, .int .i64 0, .string ⟨#[]⟩] (0, 0) _ rfl h9 Try.underlying29 rfl (by kernel_rfl)) rfl ?_
        exact ⟨rfl, hb9 _ _ (by repeat (first | exact HB5.out | apply pw_below_drewN | apply below_alloc)) (Nat.le_refl _)⟩
    | succ m =>
      have H := HGO.out
      clear HGO
      simp only [msg_Take.go] at H
      obtain ⟨⟨v, n, e1⟩, hT, H⟩ := Option.bind_eq_some_iff.mp H
      have A := Aside0.mk hT
      clear hT
      simp only at H
      have hl : (l0.length : Int) < 10 := by have := HL.out; omega
      have hlb : decide ((l0.length : Int) < 10) = true := decide_eq_true hl
      by_cases he : e1 = 0
      · subst he
        rw [if_pos rfl] at H
        by_cases h0 : 0 ≤ n
        · rw [if_pos h0] at H
          by_cases h1 : n ≤ (s.size : Int)
          · rw [if_pos h1] at H
            have HN := Aside0.mk H
            clear H
            go_wp2_with (first | (go_at_call 28; refine (num_Take.calls k s v n 0 _ A.out).mono ?_; rintro e w' ⟨rfl, ⟨nd, rfl⟩⟩))
            have hc : wr.cell? ⟨w.heap.size + 1, l0.length, none⟩ = some (.int .i64 0) := by
              have h4 := HL.out
              rw [blk_cell BA.out]
              simp only [msg_Take.arr, List.getElem?_toArray]
              rw [List.getElem?_append_right (by simp), List.getElem?_replicate, if_pos (by simp; omega)]
            have hf : wr.frozen? ⟨w.heap.size + 1, l0.length, none⟩ = false := blk_frozen BA.out _
            have hk0 : decide (0 ≤ n) = true := decide_eq_true h0
            have hk1 : decide (n ≤ (s.size : Int)) = true := decide_eq_true h1
            go_region
            go_wp2
            go_roundg m
            case measure => omega
            case rel =>
              refine ⟨_, l0 ++ [v], rfl, ?_, ⟨by have := HL.out; simp; omega⟩, HN, ⟨?_⟩, ⟨?_⟩, ⟨?_⟩⟩
              · simp
              · exact Below.setCell (pw_below_drewN HB.out _) (by simp) _
              · exact blk_far (blk_drewN BR.out _) (by simp) _
              · refine blk_put (blk_drewN BA.out _) _ _ ?_
                exact msg_Take.arr_set l0 v (by have := HL.out; omega)
          · rw [if_neg h1] at H
            exact absurd H (by simp)
        · rw [if_neg h0] at H
          exact absurd H (by simp)
      · rw [if_neg he] at H
        obtain ⟨rfl, rfl, rfl⟩ : [] = l ∧ s = s' ∧ e1 = e := by simpa using H
        clear H
        have HR := H'.out
        rw [if_neg he] at HR
        obtain ⟨rfl, rfl, rfl, rfl, rfl, rfl, rfl, rfl, rfl, rfl, rfl, rfl⟩ : 0 = r1 ∧ 0 = r2 ∧ 0 = r3 ∧ 0 = r4 ∧ 0 = r5 ∧ 0 = r6 ∧ 0 = r7 ∧ 0 = r8 ∧ 0 = r9 ∧ 0 = r10 ∧ ⟨#[]⟩ = r11 ∧ e1 = r12 := by simpa using HR
        clear HR H'
        have he1 : (e1 == 0) = false := beq_eq_false_iff_ne.mpr he
        have he2 : (e1 != 0) = true := bne_iff_ne.mpr he
        obtain ⟨hc0, hc1, hc2, hc3, hc4, hc5, hc6, hc7, hc8, hc9, hc10⟩ := cells11 BR.out
        have hfz := fun i_ => blk_frozen BR.out i_
        go_wp2_with (first | (go_at_call 28; refine (num_Take.calls k s v n e1 _ A.out).mono ?_; rintro e w' ⟨rfl, ⟨nd, rfl⟩⟩))
        refine nest11 (C := fun w' => bodyPost Try.prog Try.f15 _ Exit.ret _ w') (blk_drewN BR.out _) rfl ?_
        intro w9 h9 hb9
        refine bodyPost_ret (results_ct rfl _ _ w.heap.size 29 #[.int .i64 0, .int .i64 0, .int .i64 0, .int .i64 0, .int .i64 0, .int .i64 0, .int .i64 0, .int .i64 0, .int .u32 0, .int .i64 0, .string ⟨#[]⟩] (0, 0) _ rfl h9 Try.underlying29 rfl (by kernel_rfl)) rfl ?_
        exact ⟨rfl, hb9 _ _ (by repeat (first | exact HB.out | apply pw_below_drewN | apply below_alloc)) (Nat.le_refl _)⟩


/-! ### thresherref0_Num: function 34 -/
def thresherref0_Num.f (a0 : Int) (a1 : Int) : Option (Bool) := if a0 ≥ 0 then (some (decide (a0 ≤ a1))) else (some false)
set_option maxHeartbeats 8000000 in
set_option maxRecDepth 100000 in
theorem thresherref0_Num.calls (a0 : Int) (a1 : Int) (r : Bool) (w : World) (h : thresherref0_Num.f a0 a1 = some r) :
    Calls Try.prog 34 #[.int .i64 a0, .int .i64 a1] w fun e w' => e = .returned (.bool r) ∧ Drawn0 w w' := by
  have H : (if a0 ≥ 0 then (some (decide (a0 ≤ a1))) else (some false)) = some r := h
  clear h
  by_cases c3 : a0 ≥ 0
  · rw [if_pos c3] at H
    have c3b0 : decide (0 ≤ a0) = true := decide_eq_true c3
    clear c3
    obtain rfl := Option.some.inj H
    go_enter Try.func34, Try.ntmps34
    go_wp2
    go_ret
    exact ⟨by first | rfl | (simp; done) | (simp [*]; done), by repeat (first | exact Drawn0.refl _ | apply Drawn0.step)⟩
  · rw [if_neg c3] at H
    have c3b0 : decide (0 ≤ a0) = false := decide_eq_false c3
    clear c3
    obtain rfl := Option.some.inj H
    go_enter Try.func34, Try.ntmps34
    go_wp2
    go_ret
    exact ⟨by first | rfl | (simp; done) | (simp [*]; done), by repeat (first | exact Drawn0.refl _ | apply Drawn0.step)⟩

/-! ### thresherref0_ID: function 35 -/
def thresherref0_ID.f (a0 : Int) : Option (Bool) := if a0 ≥ 1 then (some (decide (a0 ≤ 1048576))) else (some false)
set_option maxHeartbeats 8000000 in
set_option maxRecDepth 100000 in
theorem thresherref0_ID.calls (a0 : Int) (r : Bool) (w : World) (h : thresherref0_ID.f a0 = some r) :
    Calls Try.prog 35 #[.int .i64 a0] w fun e w' => e = .returned (.bool r) ∧ Drawn0 w w' := by
  have H : (if a0 ≥ 1 then (some (decide (a0 ≤ 1048576))) else (some false)) = some r := h
  clear h
  by_cases c2 : a0 ≥ 1
  · rw [if_pos c2] at H
    have c2b0 : decide (1 ≤ a0) = true := decide_eq_true c2
    clear c2
    obtain rfl := Option.some.inj H
    go_enter Try.func35, Try.ntmps35
    go_wp2
    go_ret
    exact ⟨by first | rfl | (simp; done) | (simp [*]; done), by repeat (first | exact Drawn0.refl _ | apply Drawn0.step)⟩
  · rw [if_neg c2] at H
    have c2b0 : decide (1 ≤ a0) = false := decide_eq_false c2
    clear c2
    obtain rfl := Option.some.inj H
    go_enter Try.func35, Try.ntmps35
    go_wp2
    go_ret
    exact ⟨by first | rfl | (simp; done) | (simp [*]; done), by repeat (first | exact Drawn0.refl _ | apply Drawn0.step)⟩

end Go.Proofs.Ytjboibdoelkfpaa.Q
