/- Contracts of the Go functions that these laws reach: each call answers what the plain Lean function beside it says. Written by a program of this session (pp.py). -/
import Derived.Test.YtjboibdoelkfpaaQ0
import Derived.Test.YtjboibdoelkfpaaQ2
import Derived.Test.YtjboibdoelkfpaaQ5
namespace Go.Proofs.Ytjboibdoelkfpaa.Q
open Go.RowKit Go.Proofs.YtjboibdoelkfpaaW.PrintWords Go.Proofs.YtjboibdoelkfpaaW.PrintLast Go.Proofs.YtjboibdoelkfpaaW.PrintMore
attribute [local go_sem] max2_int min2_int max_two min_two max_three min_three max_four min_four   -- for this text's walks alone
set_option linter.unusedVariables false
set_option linter.unusedSimpArgs false

/-! ### thresherref1_TakeFour: function 44 -/
def thresherref1_TakeFour.f (a0 : ByteArray) : Option (Int × Bool) := if (a0.size : Int) < 4 then (some (0, false)) else (if 0 < (a0.size : Int) then (if 1 < (a0.size : Int) then (if 2 < (a0.size : Int) then (if 3 < (a0.size : Int) then (some (Go.bits .or .u32 (Go.bits .or .u32 (Go.bits .or .u32 ((((bt a0 0) % 4294967296) * 16777216) % 4294967296) ((((bt a0 1) % 4294967296) * 65536) % 4294967296)) ((((bt a0 2) % 4294967296) * 256) % 4294967296)) ((bt a0 3) % 4294967296), true)) else (none)) else (none)) else (none)) else (none))
set_option maxHeartbeats 8000000 in
set_option maxRecDepth 100000 in
theorem thresherref1_TakeFour.calls (a0 : ByteArray) (r1 : Int) (r2 : Bool) (w : World) (h : thresherref1_TakeFour.f a0 = some (r1, r2)) :
    Calls Try.prog 44 #[.string a0] w fun e w' => e = .returned (.tuple #[.int .u32 r1, .bool r2]) ∧ Drawn0 w w' := by
  have H : (if (a0.size : Int) < 4 then (some (0, false)) else (if 0 < (a0.size : Int) then (if 1 < (a0.size : Int) then (if 2 < (a0.size : Int) then (if 3 < (a0.size : Int) then (some (Go.bits .or .u32 (Go.bits .or .u32 (Go.bits .or .u32 ((((bt a0 0) % 4294967296) * 16777216) % 4294967296) ((((bt a0 1) % 4294967296) * 65536) % 4294967296)) ((((bt a0 2) % 4294967296) * 256) % 4294967296)) ((bt a0 3) % 4294967296), true)) else (none)) else (none)) else (none)) else (none))) = some (r1, r2) := h
  clear h
  by_cases c2 : (a0.size : Int) < 4
  · rw [if_pos c2] at H
    have c2b0 : decide ((a0.size : Int) < 4) = true := decide_eq_true c2
    have c2b1 : decide (a0.size < 4) = true := decide_eq_true (by omega)
    clear c2
    simp only [Option.some.injEq, Prod.mk.injEq] at H
    obtain ⟨rfl, rfl⟩ := H
    go_enter Try.func44, Try.ntmps44
    go_wp2
    repeat (go_quiet (fail); try go_wp2)
    go_ret2
    exact ⟨by first | rfl | (simp; done) | (simp [*]; done), by repeat (first | exact Drawn0.refl _ | apply Drawn0.step)⟩
  · rw [if_neg c2] at H
    have c2b0 : decide ((a0.size : Int) < 4) = false := decide_eq_false c2
    have c2b1 : decide (a0.size < 4) = false := decide_eq_false (by omega)
    clear c2
    by_cases c3 : 0 < (a0.size : Int)
    · rw [if_pos c3] at H
      have c3b0 : decide (0 < (a0.size : Int)) = true := decide_eq_true c3
      have c3b1 : decide (0 < a0.size) = true := decide_eq_true (by omega)
      clear c3
      by_cases c5 : 1 < (a0.size : Int)
      · rw [if_pos c5] at H
        have c5b0 : decide (1 < (a0.size : Int)) = true := decide_eq_true c5
        have c5b1 : decide (1 < a0.size) = true := decide_eq_true (by omega)
        clear c5
        by_cases c7 : 2 < (a0.size : Int)
        · rw [if_pos c7] at H
          have c7b0 : decide (2 < (a0.size : Int)) = true := decide_eq_true c7
          have c7b1 : decide (2 < a0.size) = true := decide_eq_true (by omega)
          clear c7
          by_cases c9 : 3 < (a0.size : Int)
          · rw [if_pos c9] at H
            have c9b0 : decide (3 < (a0.size : Int)) = true := decide_eq_true c9
            have c9b1 : decide (3 < a0.size) = true := decide_eq_true (by omega)
            clear c9
            simp only [Option.some.injEq, Prod.mk.injEq] at H
            obtain ⟨rfl, rfl⟩ := H
            have p4 : 0 ≤ (0 : Int) := (by omega)
            have q4 : 0 < a0.size := (by have : (0 : Int) < (a0.size : Int) := of_decide_eq_true (by first | (with_reducible assumption) | assumption); omega)
            have hx4 : ∀ h : 0 < a0.size, ((a0[0]'h).toNat : Int) = bt a0 0 := bt_at a0 0
            clear p4
            have qi4 : (0 < (a0.size : Int)) = True := eq_true (of_decide_eq_true (by first | (with_reducible assumption) | assumption))
            replace q4 := eq_true q4
            have p6 : 0 ≤ (1 : Int) := (by omega)
            have q6 : 1 < a0.size := (by have : (1 : Int) < (a0.size : Int) := of_decide_eq_true (by first | (with_reducible assumption) | assumption); omega)
            have hx6 : ∀ h : 1 < a0.size, ((a0[1]'h).toNat : Int) = bt a0 1 := bt_at a0 1
            clear p6
            have qi6 : (1 < (a0.size : Int)) = True := eq_true (of_decide_eq_true (by first | (with_reducible assumption) | assumption))
            replace q6 := eq_true q6
            have p8 : 0 ≤ (2 : Int) := (by omega)
            have q8 : 2 < a0.size := (by have : (2 : Int) < (a0.size : Int) := of_decide_eq_true (by first | (with_reducible assumption) | assumption); omega)
            have hx8 : ∀ h : 2 < a0.size, ((a0[2]'h).toNat : Int) = bt a0 2 := bt_at a0 2
            clear p8
            have qi8 : (2 < (a0.size : Int)) = True := eq_true (of_decide_eq_true (by first | (with_reducible assumption) | assumption))
            replace q8 := eq_true q8
            have p10 : 0 ≤ (3 : Int) := (by omega)
            have q10 : 3 < a0.size := (by have : (3 : Int) < (a0.size : Int) := of_decide_eq_true (by first | (with_reducible assumption) | assumption); omega)
            have hx10 : ∀ h : 3 < a0.size, ((a0[3]'h).toNat : Int) = bt a0 3 := bt_at a0 3
            clear p10
            have qi10 : (3 < (a0.size : Int)) = True := eq_true (of_decide_eq_true (by first | (with_reducible assumption) | assumption))
            replace q10 := eq_true q10
            go_enter Try.func44, Try.ntmps44
            go_wp2
            repeat (go_quiet (fail); try go_wp2)
            go_ret2
            exact ⟨by first | rfl | (simp; done) | (simp [*]; done), by repeat (first | exact Drawn0.refl _ | apply Drawn0.step)⟩
          · rw [if_neg c9] at H
            exact absurd H (by simp)
        · rw [if_neg c7] at H
          exact absurd H (by simp)
      · rw [if_neg c5] at H
        exact absurd H (by simp)
    · rw [if_neg c3] at H
      exact absurd H (by simp)

/-! ### thresherref3_TakeFrame: function 29 -/
def thresherref3_TakeFrame.f (k : Nat) (a0 : ByteArray) : Option (ByteArray × Int × Int) := if (a0.size : Int) < 8 then (some ((⟨#[]⟩ : ByteArray), 0, 6)) else ((thresherref1_TakeFour.f a0).bind fun bt139 => (if bt139.1 > 32768 then (some ((⟨#[]⟩ : ByteArray), 0, 2)) else (if (wrap64 ((a0.size : Int) - 8)) < (wrap64 (bt139.1)) then (some ((⟨#[]⟩ : ByteArray), 0, 6)) else (if 4 ≤ (a0.size : Int) then ((thresherref1_TakeFour.f (a0.extract 4 a0.size)).bind fun bt141 => (if 8 ≤ (wrap64 (8 + (wrap64 (bt139.1)))) then (if (wrap64 (8 + (wrap64 (bt139.1)))) ≤ (a0.size : Int) then (if 0 ≤ 4 then (if (a0.extract 0 4).size + (a0.extract 8 ((wrap64 (8 + (wrap64 (bt139.1)))) : Int).toNat).size ≤ 9223372036854775807 then ((thresherref1_Sum.f k ((a0.extract 0 4) ++ (a0.extract 8 ((wrap64 (8 + (wrap64 (bt139.1)))) : Int).toNat))).bind fun t143 => (if t143 = bt141.1 then (some (a0.extract 8 ((wrap64 (8 + (wrap64 (bt139.1)))) : Int).toNat, wrap64 (8 + (wrap64 (bt139.1))), 0)) else (some ((⟨#[]⟩ : ByteArray), 0, 8)))) else (none)) else (none)) else (none)) else (none))) else (none)))))
set_option maxHeartbeats 8000000 in
set_option maxRecDepth 100000 in
theorem thresherref3_TakeFrame.calls (k : Nat) (a0 : ByteArray) (r1 : ByteArray) (r2 : Int) (r3 : Int) (w : World) (h : thresherref3_TakeFrame.f k a0 = some (r1, r2, r3)) :
    Calls Try.prog 29 #[.string a0] w fun e w' => e = .returned (.tuple #[.string r1, .int .i64 r2, .int .i64 r3]) ∧ Drawn0 w w' := by
  have H : (if (a0.size : Int) < 8 then (some ((⟨#[]⟩ : ByteArray), 0, 6)) else ((thresherref1_TakeFour.f a0).bind fun bt139 => (if bt139.1 > 32768 then (some ((⟨#[]⟩ : ByteArray), 0, 2)) else (if (wrap64 ((a0.size : Int) - 8)) < (wrap64 (bt139.1)) then (some ((⟨#[]⟩ : ByteArray), 0, 6)) else (if 4 ≤ (a0.size : Int) then ((thresherref1_TakeFour.f (a0.extract 4 a0.size)).bind fun bt141 => (if 8 ≤ (wrap64 (8 + (wrap64 (bt139.1)))) then (if (wrap64 (8 + (wrap64 (bt139.1)))) ≤ (a0.size : Int) then (if 0 ≤ 4 then (if (a0.extract 0 4).size + (a0.extract 8 ((wrap64 (8 + (wrap64 (bt139.1)))) : Int).toNat).size ≤ 9223372036854775807 then ((thresherref1_Sum.f k ((a0.extract 0 4) ++ (a0.extract 8 ((wrap64 (8 + (wrap64 (bt139.1)))) : Int).toNat))).bind fun t143 => (if t143 = bt141.1 then (some (a0.extract 8 ((wrap64 (8 + (wrap64 (bt139.1)))) : Int).toNat, wrap64 (8 + (wrap64 (bt139.1))), 0)) else (some ((⟨#[]⟩ : ByteArray), 0, 8)))) else (none)) else (none)) else (none)) else (none))) else (none)))))) = some (r1, r2, r3) := h
  clear h
  by_cases c2 : (a0.size : Int) < 8
  · rw [if_pos c2] at H
    have c2b0 : decide ((a0.size : Int) < 8) = true := decide_eq_true c2
    have c2b1 : decide (a0.size < 8) = true := decide_eq_true (by omega)
    clear c2
    simp only [Option.some.injEq, Prod.mk.injEq] at H
    obtain ⟨rfl, rfl, rfl⟩ := H
    go_enter Try.func29, Try.ntmps29
    go_wp2
    go_ret3
    exact ⟨by first | rfl | (simp; done) | (simp [*]; done), by repeat (first | exact Drawn0.refl _ | apply Drawn0.step)⟩
  · rw [if_neg c2] at H
    have c2b0 : decide ((a0.size : Int) < 8) = false := decide_eq_false c2
    have c2b1 : decide (a0.size < 8) = false := decide_eq_false (by omega)
    clear c2
    replace H := Option.bind_eq_some_iff.mp H
    obtain ⟨⟨t139, t140⟩, A30, H⟩ := H
    replace H : (if t139 > 32768 then (some ((⟨#[]⟩ : ByteArray), 0, 2)) else (if (wrap64 ((a0.size : Int) - 8)) < (wrap64 (t139)) then (some ((⟨#[]⟩ : ByteArray), 0, 6)) else (if 4 ≤ (a0.size : Int) then ((thresherref1_TakeFour.f (a0.extract 4 a0.size)).bind fun bt141 => (if 8 ≤ (wrap64 (8 + (wrap64 (t139)))) then (if (wrap64 (8 + (wrap64 (t139)))) ≤ (a0.size : Int) then (if 0 ≤ 4 then (if (a0.extract 0 4).size + (a0.extract 8 ((wrap64 (8 + (wrap64 (t139)))) : Int).toNat).size ≤ 9223372036854775807 then ((thresherref1_Sum.f k ((a0.extract 0 4) ++ (a0.extract 8 ((wrap64 (8 + (wrap64 (t139)))) : Int).toNat))).bind fun t143 => (if t143 = bt141.1 then (some (a0.extract 8 ((wrap64 (8 + (wrap64 (t139)))) : Int).toNat, wrap64 (8 + (wrap64 (t139))), 0)) else (some ((⟨#[]⟩ : ByteArray), 0, 8)))) else (none)) else (none)) else (none)) else (none))) else (none)))) = some (r1, r2, r3) := H
    have A3 := Aside0.mk A30
    clear A30
    by_cases c4 : t139 > 32768
    · rw [if_pos c4] at H
      have c4b0 : decide (32768 < t139) = true := decide_eq_true c4
      clear c4
      simp only [Option.some.injEq, Prod.mk.injEq] at H
      obtain ⟨rfl, rfl, rfl⟩ := H
      go_enter Try.func29, Try.ntmps29
      go_wp2_with (first | ((with_reducible refine gate_callee (f := 44) rfl ?_); refine goesL_ (some 15) rfl rfl Try.func44 (by kernel_rfl) rfl #[.string a0] rfl (by (try simp only [List.map_toArray, List.map_cons, List.map_nil]); first | done | rfl | (simp only [List.length_drop, List.length_take]; rfl)) ?_; (with_reducible refine (thresherref1_TakeFour.calls a0 t139 t140 _ A3.out).mono ?_); rintro e w' ⟨rfl, ⟨nd, rfl⟩⟩; refine ⟨_, rfl, ?_⟩))
      go_ret3
      exact ⟨by first | rfl | (simp; done) | (simp [*]; done), by repeat (first | exact Drawn0.refl _ | apply Drawn0.step)⟩
    · rw [if_neg c4] at H
      have c4b0 : decide (32768 < t139) = false := decide_eq_false c4
      clear c4
      by_cases c5 : (wrap64 ((a0.size : Int) - 8)) < (wrap64 (t139))
      · rw [if_pos c5] at H
        have c5b0 : decide ((wrap64 ((a0.size : Int) - 8)) < (wrap64 (t139))) = true := decide_eq_true c5
        clear c5
        simp only [Option.some.injEq, Prod.mk.injEq] at H
        obtain ⟨rfl, rfl, rfl⟩ := H
        go_enter Try.func29, Try.ntmps29
        go_wp2_with (first | ((with_reducible refine gate_callee (f := 44) rfl ?_); refine goesL_ (some 15) rfl rfl Try.func44 (by kernel_rfl) rfl #[.string a0] rfl (by (try simp only [List.map_toArray, List.map_cons, List.map_nil]); first | done | rfl | (simp only [List.length_drop, List.length_take]; rfl)) ?_; (with_reducible refine (thresherref1_TakeFour.calls a0 t139 t140 _ A3.out).mono ?_); rintro e w' ⟨rfl, ⟨nd, rfl⟩⟩; refine ⟨_, rfl, ?_⟩))
        go_ret3
        exact ⟨by first | rfl | (simp; done) | (simp [*]; done), by repeat (first | exact Drawn0.refl _ | apply Drawn0.step)⟩
      · rw [if_neg c5] at H
        have c5b0 : decide ((wrap64 ((a0.size : Int) - 8)) < (wrap64 (t139))) = false := decide_eq_false c5
        clear c5
        by_cases c6 : 4 ≤ (a0.size : Int)
        · rw [if_pos c6] at H
          have c6b0 := eq_true c6
          have c6b1 : decide (4 ≤ (a0.size : Int)) = true := decide_eq_true c6
          clear c6
          replace H := Option.bind_eq_some_iff.mp H
          obtain ⟨⟨t141, t142⟩, A70, H⟩ := H
          replace H : (if 8 ≤ (wrap64 (8 + (wrap64 (t139)))) then (if (wrap64 (8 + (wrap64 (t139)))) ≤ (a0.size : Int) then (if 0 ≤ 4 then (if (a0.extract 0 4).size + (a0.extract 8 ((wrap64 (8 + (wrap64 (t139)))) : Int).toNat).size ≤ 9223372036854775807 then ((thresherref1_Sum.f k ((a0.extract 0 4) ++ (a0.extract 8 ((wrap64 (8 + (wrap64 (t139)))) : Int).toNat))).bind fun t143 => (if t143 = t141 then (some (a0.extract 8 ((wrap64 (8 + (wrap64 (t139)))) : Int).toNat, wrap64 (8 + (wrap64 (t139))), 0)) else (some ((⟨#[]⟩ : ByteArray), 0, 8)))) else (none)) else (none)) else (none)) else (none)) = some (r1, r2, r3) := H
          have A7 := Aside0.mk A70
          clear A70
          by_cases c8 : 8 ≤ (wrap64 (8 + (wrap64 (t139))))
          · rw [if_pos c8] at H
            have c8b0 := eq_true c8
            have c8b1 : decide (8 ≤ (wrap64 (8 + (wrap64 (t139))))) = true := decide_eq_true c8
            by_cases c9 : (wrap64 (8 + (wrap64 (t139)))) ≤ (a0.size : Int)
            · rw [if_pos c9] at H
              have c9b0 := eq_true c9
              have c9b1 : decide ((wrap64 (8 + (wrap64 (t139)))) ≤ (a0.size : Int)) = true := decide_eq_true c9
              by_cases c10 : 0 ≤ 4
              · rw [if_pos c10] at H
                have c10b0 := eq_true c10
                have c10b1 : decide (0 ≤ 4) = true := decide_eq_true c10
                clear c10
                have c11b0 := eq_true (of_decide_eq_true (by first | (with_reducible assumption) | assumption) : 4 ≤ (a0.size : Int))
                by_cases c12 : (a0.extract 0 4).size + (a0.extract 8 ((wrap64 (8 + (wrap64 (t139)))) : Int).toNat).size ≤ 9223372036854775807
                · rw [if_pos c12] at H
                  have c12b0 := eq_true c12
                  have c12b1 : decide ((a0.extract 0 4).size + (a0.extract 8 ((wrap64 (8 + (wrap64 (t139)))) : Int).toNat).size ≤ 9223372036854775807) = true := decide_eq_true c12
                  try have c12b2 : (9223372036854775807 < (a0.extract 0 4).size + (a0.extract 8 ((wrap64 (8 + (wrap64 (t139)))) : Int).toNat).size) = False := eq_false (Nat.not_lt.2 c12)
                  replace H := Option.bind_eq_some_iff.mp H
                  obtain ⟨t143, A130, H⟩ := H
                  replace H : (if t143 = t141 then (some (a0.extract 8 ((wrap64 (8 + (wrap64 (t139)))) : Int).toNat, wrap64 (8 + (wrap64 (t139))), 0)) else (some ((⟨#[]⟩ : ByteArray), 0, 8))) = some (r1, r2, r3) := H
                  have A13 := Aside0.mk A130
                  clear A130
                  by_cases c14 : t143 = t141
                  · rw [if_pos c14] at H
                    have c14b0 : (t143 == t141) = true := beq_iff_eq.mpr c14
                    have c14b1 : (t143 != t141) = false := bne_eq_false_iff_eq.mpr c14
                    clear c14
                    simp only [Option.some.injEq, Prod.mk.injEq] at H
                    obtain ⟨rfl, rfl, rfl⟩ := H
                    go_enter Try.func29, Try.ntmps29
                    go_wp2_with (first | ((with_reducible refine gate_callee (f := 44) rfl ?_); refine goesL_ (some 15) rfl rfl Try.func44 (by kernel_rfl) rfl #[.string a0] rfl (by (try simp only [List.map_toArray, List.map_cons, List.map_nil]); first | done | rfl | (simp only [List.length_drop, List.length_take]; rfl)) ?_; (with_reducible refine (thresherref1_TakeFour.calls a0 t139 t140 _ A3.out).mono ?_); rintro e w' ⟨rfl, ⟨nd, rfl⟩⟩; refine ⟨_, rfl, ?_⟩) | ((with_reducible refine gate_callee (f := 44) rfl ?_); refine goesL_ (some 29) rfl rfl Try.func44 (by kernel_rfl) rfl #[.string (a0.extract 4 a0.size)] rfl (by (try simp only [List.map_toArray, List.map_cons, List.map_nil]); first | done | rfl | (simp only [List.length_drop, List.length_take]; rfl)) ?_; (with_reducible refine (thresherref1_TakeFour.calls (a0.extract 4 a0.size) t141 t142 _ A7.out).mono ?_); rintro e w' ⟨rfl, ⟨nd, rfl⟩⟩; refine ⟨_, rfl, ?_⟩) | ((with_reducible refine gate_callee (f := 26) rfl ?_); refine goesL_ (some 41) rfl rfl Try.func26 (by kernel_rfl) rfl #[.string ((a0.extract 0 4) ++ (a0.extract 8 ((wrap64 (8 + (wrap64 (t139)))) : Int).toNat))] rfl (by (try simp only [List.map_toArray, List.map_cons, List.map_nil]); first | done | rfl | (simp only [List.length_drop, List.length_take]; rfl)) ?_; (with_reducible refine (thresherref1_Sum.calls k ((a0.extract 0 4) ++ (a0.extract 8 ((wrap64 (8 + (wrap64 (t139)))) : Int).toNat)) t143 _ A13.out).mono ?_); rintro e w' ⟨rfl, ⟨nd, rfl⟩⟩; refine ⟨_, rfl, ?_⟩))
                    go_ret3
                    exact ⟨by first | rfl | (simp; done) | (simp [*]; done), by repeat (first | exact Drawn0.refl _ | apply Drawn0.step)⟩
                  · rw [if_neg c14] at H
                    have c14b0 : (t143 == t141) = false := beq_eq_false_iff_ne.mpr c14
                    have c14b1 : (t143 != t141) = true := bne_iff_ne.mpr c14
                    simp only [Option.some.injEq, Prod.mk.injEq] at H
                    obtain ⟨rfl, rfl, rfl⟩ := H
                    go_enter Try.func29, Try.ntmps29
                    go_wp2_with (first | ((with_reducible refine gate_callee (f := 44) rfl ?_); refine goesL_ (some 15) rfl rfl Try.func44 (by kernel_rfl) rfl #[.string a0] rfl (by (try simp only [List.map_toArray, List.map_cons, List.map_nil]); first | done | rfl | (simp only [List.length_drop, List.length_take]; rfl)) ?_; (with_reducible refine (thresherref1_TakeFour.calls a0 t139 t140 _ A3.out).mono ?_); rintro e w' ⟨rfl, ⟨nd, rfl⟩⟩; refine ⟨_, rfl, ?_⟩) | ((with_reducible refine gate_callee (f := 44) rfl ?_); refine goesL_ (some 29) rfl rfl Try.func44 (by kernel_rfl) rfl #[.string (a0.extract 4 a0.size)] rfl (by (try simp only [List.map_toArray, List.map_cons, List.map_nil]); first | done | rfl | (simp only [List.length_drop, List.length_take]; rfl)) ?_; (with_reducible refine (thresherref1_TakeFour.calls (a0.extract 4 a0.size) t141 t142 _ A7.out).mono ?_); rintro e w' ⟨rfl, ⟨nd, rfl⟩⟩; refine ⟨_, rfl, ?_⟩) | ((with_reducible refine gate_callee (f := 26) rfl ?_); refine goesL_ (some 41) rfl rfl Try.func26 (by kernel_rfl) rfl #[.string ((a0.extract 0 4) ++ (a0.extract 8 ((wrap64 (8 + (wrap64 (t139)))) : Int).toNat))] rfl (by (try simp only [List.map_toArray, List.map_cons, List.map_nil]); first | done | rfl | (simp only [List.length_drop, List.length_take]; rfl)) ?_; (with_reducible refine (thresherref1_Sum.calls k ((a0.extract 0 4) ++ (a0.extract 8 ((wrap64 (8 + (wrap64 (t139)))) : Int).toNat)) t143 _ A13.out).mono ?_); rintro e w' ⟨rfl, ⟨nd, rfl⟩⟩; refine ⟨_, rfl, ?_⟩))
                    go_ret3
                    exact ⟨by first | rfl | (simp; done) | (simp [*]; done), by repeat (first | exact Drawn0.refl _ | apply Drawn0.step)⟩
                · rw [if_neg c12] at H
                  exact absurd H (by simp)
              · rw [if_neg c10] at H
                exact absurd H (by simp)
            · rw [if_neg c9] at H
              exact absurd H (by simp)
          · rw [if_neg c8] at H
            exact absurd H (by simp)
        · rw [if_neg c6] at H
          exact absurd H (by simp)

/-! ### thresherref1_Take: function 30 -/
mutual
def thresherref1_Take.l0 : Nat → ByteArray → Int → Int → Option (Int × Int × Int)
  | 0, _, _, _ => none
  | k + 1, x0, x5, x6 => if x6 < 10 then (if x6 ≥ (x0.size : Int) then (some (0, 0, 6)) else (if 0 ≤ x6 then (if x6 < (x0.size : Int) then (if x6 = 9 then (thresherref1_Take.j1 k x0 x5 x6 (IntKind.u64.wrap (bt x0 x6)) (decide ((IntKind.u64.wrap (bt x0 x6)) > 1))) else (thresherref1_Take.j1 k x0 x5 x6 (IntKind.u64.wrap (bt x0 x6)) false)) else (none)) else (none))) else (some (0, 0, 7))
def thresherref1_Take.j1 : Nat → ByteArray → Int → Int → Int → Bool → Option (Int × Int × Int)
  | 0, _, _, _, _, _ => none
  | k + 1, x0, x5, x6, x7, x26 => if x26 = true then (some (0, 0, 7)) else (if 0 ≤ (wrap64 (7 * x6)) then (if x7 < 128 then (if x7 = 0 then (thresherref1_Take.j2 k (Go.bits .or .u64 x5 (shl .u64 (Int.tmod x7 128) (wrap64 (7 * x6)))) x6 (decide (x6 > 0))) else (thresherref1_Take.j2 k (Go.bits .or .u64 x5 (shl .u64 (Int.tmod x7 128) (wrap64 (7 * x6)))) x6 false)) else (thresherref1_Take.l0 k x0 (Go.bits .or .u64 x5 (shl .u64 (Int.tmod x7 128) (wrap64 (7 * x6)))) (wrap64 (x6 + 1)))) else (none))
def thresherref1_Take.j2 : Nat → Int → Int → Bool → Option (Int × Int × Int)
  | 0, _, _, _ => none
  | k + 1, x5, x6, x41 => if x41 = true then (some (0, 0, 7)) else (if (Go.bits .and .u64 x5 1) = 1 then (some (Go.bits .xor .i64 (-1) (wrap64 (x5 / 2)), wrap64 (x6 + 1), 0)) else (some (wrap64 (x5 / 2), wrap64 (x6 + 1), 0)))
end
def thresherref1_Take.f (k : Nat) (a0 : ByteArray) : Option (Int × Int × Int) := thresherref1_Take.l0 k a0 0 0
set_option maxHeartbeats 8000000 in
set_option maxRecDepth 100000 in
theorem thresherref1_Take.calls (k : Nat) (a0 : ByteArray) (r1 : Int) (r2 : Int) (r3 : Int) (w : World) (h : thresherref1_Take.f k a0 = some (r1, r2, r3)) :
    Calls Try.prog 30 #[.string a0] w fun e w' => e = .returned (.tuple #[.int .i64 r1, .int .i64 r2, .int .i64 r3]) ∧ Drawn0 w w' := by
  have H : (thresherref1_Take.l0 k a0 0 0) = some (r1, r2, r3) := h
  clear h
  have H' := Aside0.mk H
  clear H
  go_enter Try.func30, Try.ntmps30
  go_wp2
  go_loopg [5, 6] k (fun kq v5 v6 w' => ∃ (x5_1 : Int) (x6_1 : Int), v5 = .int .u64 x5_1 ∧ v6 = .int .i64 x6_1 ∧ Aside0 (thresherref1_Take.l0 kq a0 x5_1 x6_1 = some (r1, r2, r3)) ∧ Aside0 (kq ≤ k) ∧ Drawn0 w w')
  case atStart => exact ⟨(0), (0), (by first | rfl | (simp; done) | (simp [*]; done)), (by first | rfl | (simp; done) | (simp [*]; done)), H', ⟨Nat.le_refl _⟩, by repeat (first | exact Drawn0.refl _ | apply Drawn0.step)⟩
  case round =>
    clear H'
    obtain ⟨x5_1, x6_1, rfl, rfl, HA, HK1, ⟨m1, rfl⟩⟩ := hrel
    cases gk with
    | zero => exact absurd HA.out (by simp [thresherref1_Take.l0])
    | succ k1 =>
      have H := HA.out
      clear HA
      simp only [thresherref1_Take.l0] at H
      by_cases c2 : x6_1 < 10
      · rw [if_pos c2] at H
        have c2b0 : decide (x6_1 < 10) = true := decide_eq_true c2
        clear c2
        by_cases c3 : x6_1 ≥ (a0.size : Int)
        · rw [if_pos c3] at H
          have c3b0 : decide ((a0.size : Int) ≤ x6_1) = true := decide_eq_true c3
          clear c3
          simp only [Option.some.injEq, Prod.mk.injEq] at H
          obtain ⟨rfl, rfl, rfl⟩ := H
          go_wp2
          go_ret3
          exact ⟨by first | rfl | (simp; done) | (simp [*]; done), by repeat (first | exact Drawn0.refl _ | apply Drawn0.step)⟩
        · rw [if_neg c3] at H
          have c3b0 : decide ((a0.size : Int) ≤ x6_1) = false := decide_eq_false c3
          clear c3
          by_cases c4 : 0 ≤ x6_1
          · rw [if_pos c4] at H
            have c4b0 : decide (0 ≤ x6_1) = true := decide_eq_true c4
            clear c4
            by_cases c5 : x6_1 < (a0.size : Int)
            · rw [if_pos c5] at H
              have c5b0 : decide (x6_1 < (a0.size : Int)) = true := decide_eq_true c5
              clear c5
              have HC7 := Aside0.mk H
              clear H
              have p6 : 0 ≤ (x6_1 : Int) := of_decide_eq_true (by first | (with_reducible assumption) | assumption)
              have q6 : x6_1 < (a0.size : Int) := of_decide_eq_true (by first | (with_reducible assumption) | assumption)
              have hx6 := bt_at a0 x6_1
              replace p6 := eq_true p6
              replace q6 := eq_true q6
              go_upto_region 8 with (fail)
              go_cut [26] (fun v26 wc => ∃ (kq : Nat) (x26_6 : Bool), v26 = .bool x26_6 ∧ Aside0 (thresherref1_Take.j1 kq a0 x5_1 x6_1 (IntKind.u64.wrap (bt a0 x6_1)) x26_6 = some (r1, r2, r3)) ∧ Aside0 (kq ≤ k1) ∧ Drawn0 w wc)
              case first =>
                have H := HC7.out
                clear HC7
                by_cases c8 : x6_1 = 9
                · rw [if_pos c8] at H
                  have c8b0 : (x6_1 == 9) = true := beq_iff_eq.mpr c8
                  have c8b1 : (x6_1 != 9) = false := bne_eq_false_iff_eq.mpr c8
                  clear c8
                  (first | rw [c8b0] | (simp only [i64_w, i32_w]; rw [c8b0]) | skip)
                  have H' := Aside0.mk H
                  clear H
                  go_wp2
                  go_meet
                  case rel => exact ⟨_, (decide ((IntKind.u64.wrap (bt a0 x6_1)) > 1)), (by first | rfl | (simp; done) | (simp [*]; done)), H', ⟨by have := HK1.out; first | omega | exact Nat.le_refl _⟩, by repeat (first | exact Drawn0.refl _ | apply Drawn0.step)⟩
                · rw [if_neg c8] at H
                  have c8b0 : (x6_1 == 9) = false := beq_eq_false_iff_ne.mpr c8
                  have c8b1 : (x6_1 != 9) = true := bne_iff_ne.mpr c8
                  (first | rw [c8b0] | (simp only [i64_w, i32_w]; rw [c8b0]) | skip)
                  have H' := Aside0.mk H
                  clear H
                  go_wp2
                  go_meet
                  case rel => exact ⟨_, (false), (by first | rfl | (simp; done) | (simp [*]; done)), H', ⟨by have := HK1.out; first | omega | exact Nat.le_refl _⟩, by repeat (first | exact Drawn0.refl _ | apply Drawn0.step)⟩
              case rest =>
                clear HC7
                (try clear c2); (try clear c2b0); (try clear p2); (try clear c3); (try clear c3b0); (try clear c4); (try clear c4b0); (try clear c5); (try clear c5b0); (try clear p6); (try clear q6); (try clear hx6); (try clear c8); (try clear c8b0); (try clear c8b1); (try clear p6); (try clear q6)
                obtain ⟨kq, x26_6, rfl, HA, HJ6, ⟨mc6, rfl⟩⟩ := hcut
                cases kq with
                | zero => exact absurd HA.out (by simp [thresherref1_Take.j1])
                | succ kj6 =>
                  have H := HA.out
                  clear HA
                  simp only [thresherref1_Take.j1] at H
                  by_cases c9 : x26_6 = true
                  · subst c9
                    have H1 : (some (0, 0, 7)) = some (r1, r2, r3) := by rw [if_pos rfl] at H; exact H
                    clear H
                    have H := H1
                    clear H1
                    simp only [Option.some.injEq, Prod.mk.injEq] at H
                    obtain ⟨rfl, rfl, rfl⟩ := H
                    go_wp2
                    go_ret3
                    exact ⟨by first | rfl | (simp; done) | (simp [*]; done), by repeat (first | exact Drawn0.refl _ | apply Drawn0.step)⟩
                  · replace c9 := Bool.eq_false_iff.mpr c9
                    subst c9
                    have H1 : (if 0 ≤ (wrap64 (7 * x6_1)) then (if (IntKind.u64.wrap (bt a0 x6_1)) < 128 then (if (IntKind.u64.wrap (bt a0 x6_1)) = 0 then (thresherref1_Take.j2 kj6 (Go.bits .or .u64 x5_1 (shl .u64 (Int.tmod (IntKind.u64.wrap (bt a0 x6_1)) 128) (wrap64 (7 * x6_1)))) x6_1 (decide (x6_1 > 0))) else (thresherref1_Take.j2 kj6 (Go.bits .or .u64 x5_1 (shl .u64 (Int.tmod (IntKind.u64.wrap (bt a0 x6_1)) 128) (wrap64 (7 * x6_1)))) x6_1 false)) else (thresherref1_Take.l0 kj6 a0 (Go.bits .or .u64 x5_1 (shl .u64 (Int.tmod (IntKind.u64.wrap (bt a0 x6_1)) 128) (wrap64 (7 * x6_1)))) (wrap64 (x6_1 + 1)))) else (none)) = some (r1, r2, r3) := by rw [if_neg (show ¬ (false = true) by decide)] at H; exact H
                    clear H
                    have H := H1
                    clear H1
                    obtain ⟨ji10, hji10⟩ : ∃ j_ : Int, (wrap64 (7 * x6_1)) = j_ := ⟨_, rfl⟩
                    replace H : (if 0 ≤ (ji10) then (if (IntKind.u64.wrap (bt a0 x6_1)) < 128 then (if (IntKind.u64.wrap (bt a0 x6_1)) = 0 then (thresherref1_Take.j2 kj6 (Go.bits .or .u64 x5_1 (shl .u64 (Int.tmod (IntKind.u64.wrap (bt a0 x6_1)) 128) (ji10))) x6_1 (decide (x6_1 > 0))) else (thresherref1_Take.j2 kj6 (Go.bits .or .u64 x5_1 (shl .u64 (Int.tmod (IntKind.u64.wrap (bt a0 x6_1)) 128) (ji10))) x6_1 false)) else (thresherref1_Take.l0 kj6 a0 (Go.bits .or .u64 x5_1 (shl .u64 (Int.tmod (IntKind.u64.wrap (bt a0 x6_1)) 128) (ji10))) (wrap64 (x6_1 + 1)))) else (none)) = some (r1, r2, r3) := by first | (rw [hji10] at H; exact H) | (simp only [hji10] at H ⊢; exact H)
                    have hji10w : (IntKind.i64.wrap (7 * x6_1)) = ji10 := (i64_w _).trans hji10
                    by_cases c11 : 0 ≤ (ji10)
                    · rw [if_pos c11] at H
                      have c11b0 := eq_true c11
                      have c11b1 : decide (0 ≤ (ji10)) = true := decide_eq_true c11
                      clear c11
                      obtain ⟨ji12, hji12⟩ : ∃ j_ : Int, (shl .u64 (Int.tmod (IntKind.u64.wrap (bt a0 x6_1)) 128) (ji10)) = j_ := ⟨_, rfl⟩
                      replace H : (if (IntKind.u64.wrap (bt a0 x6_1)) < 128 then (if (IntKind.u64.wrap (bt a0 x6_1)) = 0 then (thresherref1_Take.j2 kj6 (Go.bits .or .u64 x5_1 (ji12)) x6_1 (decide (x6_1 > 0))) else (thresherref1_Take.j2 kj6 (Go.bits .or .u64 x5_1 (ji12)) x6_1 false)) else (thresherref1_Take.l0 kj6 a0 (Go.bits .or .u64 x5_1 (ji12)) (wrap64 (x6_1 + 1)))) = some (r1, r2, r3) := by first | (rw [hji12] at H; exact H) | (simp only [hji12] at H ⊢; exact H)
                      have hji12_ : (IntKind.u64.wrap ((Int.tmod (IntKind.u64.wrap (bt a0 x6_1)) 128) * 2 ^ min (ji10).toNat 64)) = ji12 := hji12
                      have hji12z : (ji10) ≤ 64 → (IntKind.u64.wrap ((Int.tmod (IntKind.u64.wrap (bt a0 x6_1)) 128) * 2 ^ (ji10).toNat)) = ji12 := shl_small hji12
                      by_cases c13 : (IntKind.u64.wrap (bt a0 x6_1)) < 128
                      · rw [if_pos c13] at H
                        have c13b0 : decide ((IntKind.u64.wrap (bt a0 x6_1)) < 128) = true := decide_eq_true c13
                        clear c13
                        have HC14 := Aside0.mk H
                        clear H
                        go_upto_region 12 with (fail)
                        go_cut [41] (fun v41 wc => ∃ (kq : Nat) (x41_13 : Bool), v41 = .bool x41_13 ∧ Aside0 (thresherref1_Take.j2 kq (Go.bits .or .u64 x5_1 (ji12)) x6_1 x41_13 = some (r1, r2, r3)) ∧ Aside0 (kq ≤ kj6) ∧ Drawn0 w wc)
                        case first =>
                          have H := HC14.out
                          clear HC14
                          by_cases c15 : (IntKind.u64.wrap (bt a0 x6_1)) = 0
                          · rw [if_pos c15] at H
                            have c15b0 : ((IntKind.u64.wrap (bt a0 x6_1)) == 0) = true := beq_iff_eq.mpr c15
                            have c15b1 : ((IntKind.u64.wrap (bt a0 x6_1)) != 0) = false := bne_eq_false_iff_eq.mpr c15
                            clear c15
                            (first | rw [c15b0] | (simp only [i64_w, i32_w]; rw [c15b0]) | skip)
                            have H' := Aside0.mk H
                            clear H
                            go_wp2
                            go_meet
                            case rel => exact ⟨_, (decide (x6_1 > 0)), (by first | rfl | (simp; done) | (simp [*]; done)), H', ⟨by have := HK1.out; have := HJ6.out; first | omega | exact Nat.le_refl _⟩, by repeat (first | exact Drawn0.refl _ | apply Drawn0.step)⟩
                          · rw [if_neg c15] at H
                            have c15b0 : ((IntKind.u64.wrap (bt a0 x6_1)) == 0) = false := beq_eq_false_iff_ne.mpr c15
                            have c15b1 : ((IntKind.u64.wrap (bt a0 x6_1)) != 0) = true := bne_iff_ne.mpr c15
                            (first | rw [c15b0] | (simp only [i64_w, i32_w]; rw [c15b0]) | skip)
                            have H' := Aside0.mk H
                            clear H
                            go_wp2
                            go_meet
                            case rel => exact ⟨_, (false), (by first | rfl | (simp; done) | (simp [*]; done)), H', ⟨by have := HK1.out; have := HJ6.out; first | omega | exact Nat.le_refl _⟩, by repeat (first | exact Drawn0.refl _ | apply Drawn0.step)⟩
                        case rest =>
                          clear HC14
                          (try clear c1); (try clear c2); (try clear c2b0); (try clear p2); (try clear c3); (try clear c3b0); (try clear c4); (try clear c4b0); (try clear c5); (try clear c5b0); (try clear c6); (try clear p6); (try clear q6); (try clear hx6); (try clear c8); (try clear c8b0); (try clear c8b1); (try clear c9); (try clear c11); (try clear c11b0); (try clear c11b1); (try clear c13); (try clear c13b0); (try clear c15); (try clear c15b0); (try clear c15b1); (try clear p2); (try clear p6); (try clear q6)
                          obtain ⟨kq, x41_13, rfl, HA, HJ13, ⟨mc13, rfl⟩⟩ := hcut
                          cases kq with
                          | zero => exact absurd HA.out (by simp [thresherref1_Take.j2])
                          | succ kj13 =>
                            have H := HA.out
                            clear HA
                            simp only [thresherref1_Take.j2] at H
                            by_cases c16 : x41_13 = true
                            · subst c16
                              have H1 : (some (0, 0, 7)) = some (r1, r2, r3) := by rw [if_pos rfl] at H; exact H
                              clear H
                              have H := H1
                              clear H1
                              simp only [Option.some.injEq, Prod.mk.injEq] at H
                              obtain ⟨rfl, rfl, rfl⟩ := H
                              go_wp2
                              go_ret3
                              exact ⟨by first | rfl | (simp; done) | (simp only [← hji10, ← hji12] <;> (first | rfl | simp)) | (simp [*]; done), by repeat (first | exact Drawn0.refl _ | apply Drawn0.step)⟩
                            · replace c16 := Bool.eq_false_iff.mpr c16
                              subst c16
                              have H1 : (if (Go.bits .and .u64 (Go.bits .or .u64 x5_1 (ji12)) 1) = 1 then (some (Go.bits .xor .i64 (-1) (wrap64 ((Go.bits .or .u64 x5_1 (ji12)) / 2)), wrap64 (x6_1 + 1), 0)) else (some (wrap64 ((Go.bits .or .u64 x5_1 (ji12)) / 2), wrap64 (x6_1 + 1), 0))) = some (r1, r2, r3) := by rw [if_neg (show ¬ (false = true) by decide)] at H; exact H
                              clear H
                              have H := H1
                              clear H1
                              by_cases c17 : (Go.bits .and .u64 (Go.bits .or .u64 x5_1 (ji12)) 1) = 1
                              · rw [if_pos c17] at H
                                have c17b0 : ((Go.bits .and .u64 (Go.bits .or .u64 x5_1 (ji12)) 1) == 1) = true := beq_iff_eq.mpr c17
                                have c17b1 : ((Go.bits .and .u64 (Go.bits .or .u64 x5_1 (ji12)) 1) != 1) = false := bne_eq_false_iff_eq.mpr c17
                                clear c17
                                simp only [Option.some.injEq, Prod.mk.injEq] at H
                                obtain ⟨rfl, rfl, rfl⟩ := H
                                go_wp2
                                go_ret3
                                exact ⟨by first | rfl | (simp; done) | (simp only [← hji10, ← hji12] <;> (first | rfl | simp)) | (simp [*]; done), by repeat (first | exact Drawn0.refl _ | apply Drawn0.step)⟩
                              · rw [if_neg c17] at H
                                have c17b0 : ((Go.bits .and .u64 (Go.bits .or .u64 x5_1 (ji12)) 1) == 1) = false := beq_eq_false_iff_ne.mpr c17
                                have c17b1 : ((Go.bits .and .u64 (Go.bits .or .u64 x5_1 (ji12)) 1) != 1) = true := bne_iff_ne.mpr c17
                                simp only [Option.some.injEq, Prod.mk.injEq] at H
                                obtain ⟨rfl, rfl, rfl⟩ := H
                                go_wp2
                                go_ret3
                                exact ⟨by first | rfl | (simp; done) | (simp only [← hji10, ← hji12] <;> (first | rfl | simp)) | (simp [*]; done), by repeat (first | exact Drawn0.refl _ | apply Drawn0.step)⟩
                      · rw [if_neg c13] at H
                        have c13b0 : decide ((IntKind.u64.wrap (bt a0 x6_1)) < 128) = false := decide_eq_false c13
                        clear c13
                        have H' := Aside0.mk H
                        clear H
                        go_wp2
                        go_roundg kj6
                        case measure => have := HK1.out; have := HJ6.out; omega
                        case rel => exact ⟨(Go.bits .or .u64 x5_1 (ji12)), (wrap64 (x6_1 + 1)), (by first | rfl | (simp; done) | (simp only [← hji12] <;> (first | rfl | simp)) | (simp [*]; done)), (by first | rfl | (simp; done) | (simp [*]; done)), H', ⟨by have := HK1.out; have := HJ6.out; omega⟩, by repeat (first | exact Drawn0.refl _ | apply Drawn0.step)⟩
                    · rw [if_neg c11] at H
                      exact absurd H (by simp)
            · rw [if_neg c5] at H
              exact absurd H (by simp)
          · rw [if_neg c4] at H
            exact absurd H (by simp)
      · rw [if_neg c2] at H
        have c2b0 : decide (x6_1 < 10) = false := decide_eq_false c2
        clear c2
        simp only [Option.some.injEq, Prod.mk.injEq] at H
        obtain ⟨rfl, rfl, rfl⟩ := H
        go_wp2
        go_ret3
        exact ⟨by first | rfl | (simp; done) | (simp [*]; done), by repeat (first | exact Drawn0.refl _ | apply Drawn0.step)⟩

/-! ### thresherref15_Take: function 16 -/
/-- So many numbers, one behind the other: the numbers, what is left, the error. -/
def thresherref15_Take.go (k : Nat) : Nat → ByteArray → List Int → Option (List Int × ByteArray × Int)
  | 0, s, l => some (l, s, 0)
  | m + 1, s, l => (thresherref1_Take.f k s).bind fun t => if t.2.2 = 0 then (if 0 ≤ t.2.1 then (if t.2.1 ≤ (s.size : Int) then thresherref15_Take.go k m (s.extract t.2.1.toNat s.size) (l ++ [t.1]) else none) else none) else some ([], s, t.2.2)
def thresherref15_Take.fin (k : Nat) (t : List Int × ByteArray × Int) : Option (Int × Int × Int × Int × Int × Int × Int × Int × Int × Int × ByteArray × Int) := if rd t.1 8 < 0 then some (0, 0, 0, 0, 0, 0, 0, 0, 0, 0, ⟨#[]⟩, 7) else if rd t.1 8 ≥ 4294967296 then some (0, 0, 0, 0, 0, 0, 0, 0, 0, 0, ⟨#[]⟩, 7) else ((thresherref15_Msg.f k (rd t.1 0) (rd t.1 1) (rd t.1 2) (rd t.1 3) (rd t.1 4) (rd t.1 5) (rd t.1 6) (rd t.1 7) (((rd t.1 8)) % 4294967296) (rd t.1 9) t.2.1).bind fun c => if c = true then some (rd t.1 0, rd t.1 1, rd t.1 2, rd t.1 3, rd t.1 4, rd t.1 5, rd t.1 6, rd t.1 7, (((rd t.1 8)) % 4294967296), rd t.1 9, t.2.1, 0) else some (0, 0, 0, 0, 0, 0, 0, 0, 0, 0, ⟨#[]⟩, 7))
def thresherref15_Take.f (k : Nat) (a0 : ByteArray) : Option (Int × Int × Int × Int × Int × Int × Int × Int × Int × Int × ByteArray × Int) := (thresherref3_TakeFrame.f k a0).bind fun u => if u.2.2 = 0 then (if u.2.1 < (a0.size : Int) then some (0, 0, 0, 0, 0, 0, 0, 0, 0, 0, ⟨#[]⟩, 7) else (thresherref15_Take.go k 10 u.1 []).bind fun t => if t.2.2 = 0 then thresherref15_Take.fin k t else some (0, 0, 0, 0, 0, 0, 0, 0, 0, 0, ⟨#[]⟩, t.2.2)) else some (0, 0, 0, 0, 0, 0, 0, 0, 0, 0, ⟨#[]⟩, u.2.2)
/-- An array of ten numbers, the first ones laid. -/
def thresherref15_Take.arr (l : List Int) : List Value := (l.map (Value.int .i64)) ++ List.replicate (10 - l.length) (.int .i64 0)
theorem thresherref15_Take.arr_set (l : List Int) (v : Int) (h : l.length < 10) : (thresherref15_Take.arr l).toArray.setIfInBounds l.length (.int .i64 v) = (thresherref15_Take.arr (l ++ [v])).toArray := by
  obtain ⟨d, hd⟩ : ∃ d, 10 - l.length = d + 1 := ⟨9 - l.length, by omega⟩
  have hd2 : 10 - (l ++ [v]).length = d := by simp; omega
  unfold thresherref15_Take.arr
  rw [hd, hd2, List.setIfInBounds_toArray, List.replicate_succ, List.map_append]
  congr 1
  rw [List.set_append, if_neg (by simp)]
  simp
set_option maxHeartbeats 16000000 in
set_option maxRecDepth 100000 in
theorem thresherref15_Take.calls (k : Nat) (a0 : ByteArray) (r1 r2 r3 r4 r5 r6 r7 r8 r9 r10 : Int) (r11 : ByteArray) (r12 : Int) (w : World) (h : thresherref15_Take.f k a0 = some (r1, r2, r3, r4, r5, r6, r7, r8, r9, r10, r11, r12)) :
    Calls Try.prog 16 #[.string a0] w fun e w' => e = .returned (.tuple #[.agg #[.int .i64 r1, .int .i64 r2, .int .i64 r3, .int .i64 r4, .int .i64 r5, .int .i64 r6, .int .i64 r7, .int .i64 r8, .int .u32 r9, .int .i64 r10, .string r11], .int .i64 r12]) ∧ Below w.heap.size w w' := by
  have hu26 := Try.underlying29
  have HB := Aside0.mk (Below.refl w.heap.size w)
  obtain ⟨⟨t, n, e0⟩, hF, H⟩ := Option.bind_eq_some_iff.mp h
  have AF := Aside0.mk hF
  clear h hF
  simp only at H
  by_cases hz : e0 = 0
  case neg =>
    rw [if_neg hz] at H
    obtain ⟨rfl, rfl, rfl, rfl, rfl, rfl, rfl, rfl, rfl, rfl, rfl, rfl⟩ : 0 = r1 ∧ 0 = r2 ∧ 0 = r3 ∧ 0 = r4 ∧ 0 = r5 ∧ 0 = r6 ∧ 0 = r7 ∧ 0 = r8 ∧ 0 = r9 ∧ 0 = r10 ∧ ⟨#[]⟩ = r11 ∧ e0 = r12 := by simpa using H
    clear H
    have hz1 : (e0 == 0) = false := beq_eq_false_iff_ne.mpr hz
    have hz2 : (e0 != 0) = true := bne_iff_ne.mpr hz
    clear hz
    go_enter Try.func16, Try.ntmps16
    go_wp2_with (first | (go_at_call 29; refine (thresherref3_TakeFrame.calls k a0 t n e0 _ AF.out).mono ?_; rintro e w' ⟨rfl, ⟨nd0, rfl⟩⟩; have BR0 := Aside0.mk (blk_drewN (blk_new w (.cells #[.int .i64 0, .int .i64 0, .int .i64 0, .int .i64 0, .int .i64 0, .int .i64 0, .int .i64 0, .int .i64 0, .int .u32 0, .int .i64 0, .string ⟨#[]⟩] 29 (0, 0))) nd0); have hfz := fun i_ => blk_frozen BR0.out i_; obtain ⟨hc0, hc1, hc2, hc3, hc4, hc5, hc6, hc7, hc8, hc9, hc10⟩ := cells11 BR0.out))
    refine nest11 (C := fun w' => bodyPost Try.prog Try.f16 _ Exit.ret _ w') (BR0.out) rfl ?_
    intro w9 h9 hb9
    refine bodyPost_ret (results_ct rfl _ _ w.heap.size 29 #[.int .i64 0, .int .i64 0, .int .i64 0, .int .i64 0, .int .i64 0, .int .i64 0, .int .i64 0, .int .i64 0, .int .u32 0, .int .i64 0, .string ⟨#[]⟩] (0, 0) _ rfl h9 Try.underlying29 rfl (by kernel_rfl)) rfl ?_
    exact ⟨rfl, hb9 _ _ (by repeat (first | exact HB.out | apply pw_below_drewN | apply below_alloc)) (Nat.le_refl _)⟩
  subst hz
  rw [if_pos rfl] at H
  by_cases hn : n < (a0.size : Int)
  case pos =>
    rw [if_pos hn] at H
    obtain ⟨rfl, rfl, rfl, rfl, rfl, rfl, rfl, rfl, rfl, rfl, rfl, rfl⟩ : 0 = r1 ∧ 0 = r2 ∧ 0 = r3 ∧ 0 = r4 ∧ 0 = r5 ∧ 0 = r6 ∧ 0 = r7 ∧ 0 = r8 ∧ 0 = r9 ∧ 0 = r10 ∧ ⟨#[]⟩ = r11 ∧ 7 = r12 := by simpa using H
    clear H
    have hn1 : decide (n < (a0.size : Int)) = true := decide_eq_true hn
    clear hn
    go_enter Try.func16, Try.ntmps16
    go_wp2_with (first | (go_at_call 29; refine (thresherref3_TakeFrame.calls k a0 t n 0 _ AF.out).mono ?_; rintro e w' ⟨rfl, ⟨nd0, rfl⟩⟩; have BR0 := Aside0.mk (blk_drewN (blk_new w (.cells #[.int .i64 0, .int .i64 0, .int .i64 0, .int .i64 0, .int .i64 0, .int .i64 0, .int .i64 0, .int .i64 0, .int .u32 0, .int .i64 0, .string ⟨#[]⟩] 29 (0, 0))) nd0); have hfz := fun i_ => blk_frozen BR0.out i_; obtain ⟨hc0, hc1, hc2, hc3, hc4, hc5, hc6, hc7, hc8, hc9, hc10⟩ := cells11 BR0.out))
    refine nest11 (C := fun w' => bodyPost Try.prog Try.f16 _ Exit.ret _ w') (BR0.out) rfl ?_
    intro w9 h9 hb9
    refine bodyPost_ret (results_ct rfl _ _ w.heap.size 29 #[.int .i64 0, .int .i64 0, .int .i64 0, .int .i64 0, .int .i64 0, .int .i64 0, .int .i64 0, .int .i64 0, .int .u32 0, .int .i64 0, .string ⟨#[]⟩] (0, 0) _ rfl h9 Try.underlying29 rfl (by kernel_rfl)) rfl ?_
    exact ⟨rfl, hb9 _ _ (by repeat (first | exact HB.out | apply pw_below_drewN | apply below_alloc)) (Nat.le_refl _)⟩
  rw [if_neg hn] at H
  have hn1 : decide (n < (a0.size : Int)) = false := decide_eq_false hn
  clear hn
  obtain ⟨⟨l, s', e⟩, hgo, H⟩ := Option.bind_eq_some_iff.mp H
  have HGO := Aside0.mk hgo
  have H' := Aside0.mk H
  clear hgo H
  simp only at H'
  go_enter Try.func16, Try.ntmps16
  go_wp2_with (first | (go_at_call 29; refine (thresherref3_TakeFrame.calls k a0 t n 0 _ AF.out).mono ?_; rintro e w' ⟨rfl, ⟨nd0, rfl⟩⟩))
  go_loopg [4, 8] 10 (fun m v_a v_b w' => ∃ (s : ByteArray) (l0 : List Int), v_a = .string s ∧ v_b = .int .i64 (l0.length : Int) ∧ Aside0 (l0.length + m = 10) ∧ Aside0 (thresherref15_Take.go k m s l0 = some (l, s', e)) ∧ Aside0 (Below w.heap.size w w') ∧ Aside0 (w'.heap[w.heap.size]? = some (.cells #[.int .i64 0, .int .i64 0, .int .i64 0, .int .i64 0, .int .i64 0, .int .i64 0, .int .i64 0, .int .i64 0, .int .u32 0, .int .i64 0, .string ⟨#[]⟩] 29 (0, 0))) ∧ Aside0 (w'.heap[w.heap.size + 1]? = some (.cells (thresherref15_Take.arr l0).toArray 56 (0, 0))))
  case atStart =>
    refine ⟨t, [], rfl, rfl, ⟨rfl⟩, HGO, ⟨?_⟩, ⟨?_⟩, ⟨?_⟩⟩
    · exact below_alloc (pw_below_drewN (below_alloc HB.out _) _) _
    · exact blk_alloc (blk_drewN (blk_new w _) _) _
    · have := blk_new ((w.alloc (.cells #[.int .i64 0, .int .i64 0, .int .i64 0, .int .i64 0, .int .i64 0, .int .i64 0, .int .i64 0, .int .i64 0, .int .u32 0, .int .i64 0, .string ⟨#[]⟩] 29 (0, 0))).drewN nd0) (.cells #[.int .i64 0, .int .i64 0, .int .i64 0, .int .i64 0, .int .i64 0, .int .i64 0, .int .i64 0, .int .i64 0, .int .i64 0, .int .i64 0] 56 (0, 0))
      simpa [thresherref15_Take.arr, World.drewN] using this
  case round =>
    clear HGO
    obtain ⟨s, l0, rfl, rfl, HL, HGO, HB, BR, BA⟩ := hrel
    cases gk with
    | zero =>
      have h4 : l0.length = 10 := by have := HL.out; omega
      have H := HGO.out
      clear HGO HL
      obtain ⟨rfl, rfl, rfl⟩ : l0 = l ∧ s = s' ∧ 0 = e := by simpa [thresherref15_Take.go] using H
      clear H
      obtain ⟨v0, v1, v2, v3, v4, v5, v6, v7, v8, v9, rfl⟩ : ∃ v0 v1 v2 v3 v4 v5 v6 v7 v8 v9, l0 = [v0, v1, v2, v3, v4, v5, v6, v7, v8, v9] := by
        match l0, h4 with
        | [v0, v1, v2, v3, v4, v5, v6, v7, v8, v9], _ => exact ⟨v0, v1, v2, v3, v4, v5, v6, v7, v8, v9, rfl⟩
      have BA2 : Aside0 (wr.heap[w.heap.size + 1]? = some (.cells #[.int .i64 v0, .int .i64 v1, .int .i64 v2, .int .i64 v3, .int .i64 v4, .int .i64 v5, .int .i64 v6, .int .i64 v7, .int .i64 v8, .int .i64 v9] 56 (0, 0))) := ⟨BA.out⟩
      clear BA
      have HR := H'.out
      clear H' h4
      rw [if_pos rfl] at HR
      replace HR : (if v8 < 0 then some (0, 0, 0, 0, 0, 0, 0, 0, 0, 0, ⟨#[]⟩, 7) else if v8 ≥ 4294967296 then some (0, 0, 0, 0, 0, 0, 0, 0, 0, 0, ⟨#[]⟩, 7) else ((thresherref15_Msg.f k v0 v1 v2 v3 v4 v5 v6 v7 (v8 % 4294967296) v9 s).bind fun c => if c = true then some (v0, v1, v2, v3, v4, v5, v6, v7, v8 % 4294967296, v9, s, 0) else some (0, 0, 0, 0, 0, 0, 0, 0, 0, 0, ⟨#[]⟩, 7))) = some (r1, r2, r3, r4, r5, r6, r7, r8, r9, r10, r11, r12) := HR
      obtain ⟨hd0, hd1, hd2, hd3, hd4, hd5, hd6, hd7, hd8, hd9⟩ := cells10 BA2.out
      by_cases hq : v8 < 0
      · rw [if_pos hq] at HR
        obtain ⟨rfl, rfl, rfl, rfl, rfl, rfl, rfl, rfl, rfl, rfl, rfl, rfl⟩ : 0 = r1 ∧ 0 = r2 ∧ 0 = r3 ∧ 0 = r4 ∧ 0 = r5 ∧ 0 = r6 ∧ 0 = r7 ∧ 0 = r8 ∧ 0 = r9 ∧ 0 = r10 ∧ ⟨#[]⟩ = r11 ∧ 7 = r12 := by simpa using HR
        clear HR
        have hq1 : decide (v8 < 0) = true := decide_eq_true hq
        clear hq
        have BA5 := Aside0.mk (blk_alloc BA2.out (.cells #[.int .i64 v0, .int .i64 v1, .int .i64 v2, .int .i64 v3, .int .i64 v4, .int .i64 v5, .int .i64 v6, .int .i64 v7, .int .u32 (v8 % 4294967296), .int .i64 v9, .string s] 29 (0, 0)))
        obtain ⟨hy0, hy1, hy2, hy3, hy4, hy5, hy6, hy7, hy8, hy9⟩ := cells10 BA5.out
        have BR5 := Aside0.mk (blk_alloc BR.out (.cells #[.int .i64 v0, .int .i64 v1, .int .i64 v2, .int .i64 v3, .int .i64 v4, .int .i64 v5, .int .i64 v6, .int .i64 v7, .int .u32 (v8 % 4294967296), .int .i64 v9, .string s] 29 (0, 0)))
        have hfz := fun i_ => blk_frozen BR5.out i_
        obtain ⟨hx0, hx1, hx2, hx3, hx4, hx5, hx6, hx7, hx8, hx9, hx10⟩ := cells11 BR5.out
        go_wp2_with fail
        refine nest11 (C := fun w' => bodyPost Try.prog Try.f16 _ Exit.ret _ w') (BR5.out) rfl ?_
        intro w9 h9 hb9
        refine bodyPost_ret (results_ct rfl _ _ w.heap.size 29 #[.int .i64 0, .int .i64 0, .int .i64 0, .int .i64 0, .int .i64 0, .int .i64 0, .int .i64 0, .int .i64 0, .int .u32 0, .int .i64 0, .string ⟨#[]⟩] (0, 0) _ rfl h9 Try.underlying29 rfl (by kernel_rfl)) rfl ?_
        exact ⟨rfl, hb9 _ _ (by repeat (first | exact HB.out | apply pw_below_drewN | apply below_alloc)) (Nat.le_refl _)⟩
      rw [if_neg hq] at HR
      by_cases hq' : v8 ≥ 4294967296
      · rw [if_pos hq'] at HR
        obtain ⟨rfl, rfl, rfl, rfl, rfl, rfl, rfl, rfl, rfl, rfl, rfl, rfl⟩ : 0 = r1 ∧ 0 = r2 ∧ 0 = r3 ∧ 0 = r4 ∧ 0 = r5 ∧ 0 = r6 ∧ 0 = r7 ∧ 0 = r8 ∧ 0 = r9 ∧ 0 = r10 ∧ ⟨#[]⟩ = r11 ∧ 7 = r12 := by simpa using HR
        clear HR
        have hq1 : decide (v8 < 0) = false := decide_eq_false hq
        have hq2 : decide (v8 ≥ 4294967296) = true := decide_eq_true hq'
        clear hq hq'
        have BA5 := Aside0.mk (blk_alloc BA2.out (.cells #[.int .i64 v0, .int .i64 v1, .int .i64 v2, .int .i64 v3, .int .i64 v4, .int .i64 v5, .int .i64 v6, .int .i64 v7, .int .u32 (v8 % 4294967296), .int .i64 v9, .string s] 29 (0, 0)))
        obtain ⟨hy0, hy1, hy2, hy3, hy4, hy5, hy6, hy7, hy8, hy9⟩ := cells10 BA5.out
        have BR5 := Aside0.mk (blk_alloc BR.out (.cells #[.int .i64 v0, .int .i64 v1, .int .i64 v2, .int .i64 v3, .int .i64 v4, .int .i64 v5, .int .i64 v6, .int .i64 v7, .int .u32 (v8 % 4294967296), .int .i64 v9, .string s] 29 (0, 0)))
        have hfz := fun i_ => blk_frozen BR5.out i_
        obtain ⟨hx0, hx1, hx2, hx3, hx4, hx5, hx6, hx7, hx8, hx9, hx10⟩ := cells11 BR5.out
        go_wp2_with fail
        refine nest11 (C := fun w' => bodyPost Try.prog Try.f16 _ Exit.ret _ w') (BR5.out) rfl ?_
        intro w9 h9 hb9
        refine bodyPost_ret (results_ct rfl _ _ w.heap.size 29 #[.int .i64 0, .int .i64 0, .int .i64 0, .int .i64 0, .int .i64 0, .int .i64 0, .int .i64 0, .int .i64 0, .int .u32 0, .int .i64 0, .string ⟨#[]⟩] (0, 0) _ rfl h9 Try.underlying29 rfl (by kernel_rfl)) rfl ?_
        exact ⟨rfl, hb9 _ _ (by repeat (first | exact HB.out | apply pw_below_drewN | apply below_alloc)) (Nat.le_refl _)⟩
      rw [if_neg hq'] at HR
      replace HR := Option.bind_eq_some_iff.mp HR
      obtain ⟨c, hC, HR⟩ := HR
      have A : Aside0 (thresherref15_Msg.f k v0 v1 v2 v3 v4 v5 v6 v7 (v8 % 4294967296) v9 s = some c) := ⟨hC⟩
      clear hC
      by_cases hc : c = true
      · subst hc
        rw [if_pos rfl] at HR
        obtain ⟨rfl, rfl, rfl, rfl, rfl, rfl, rfl, rfl, rfl, rfl, rfl, rfl⟩ : v0 = r1 ∧ v1 = r2 ∧ v2 = r3 ∧ v3 = r4 ∧ v4 = r5 ∧ v5 = r6 ∧ v6 = r7 ∧ v7 = r8 ∧ (v8 % 4294967296) = r9 ∧ v9 = r10 ∧ s = r11 ∧ 0 = r12 := by simpa using HR
        clear HR
        have hq1 : decide (v8 < 0) = false := decide_eq_false hq
        have hq2 : decide (v8 ≥ 4294967296) = false := decide_eq_false hq'
        clear hq hq'
        have BA5 := Aside0.mk (blk_alloc BA2.out (.cells #[.int .i64 v0, .int .i64 v1, .int .i64 v2, .int .i64 v3, .int .i64 v4, .int .i64 v5, .int .i64 v6, .int .i64 v7, .int .u32 (v8 % 4294967296), .int .i64 v9, .string s] 29 (0, 0)))
        obtain ⟨hy0, hy1, hy2, hy3, hy4, hy5, hy6, hy7, hy8, hy9⟩ := cells10 BA5.out
        go_wp2_with (first | (go_at_call 22; refine (thresherref15_Msg.calls k v0 v1 v2 v3 v4 v5 v6 v7 (v8 % 4294967296) v9 s _ _ A.out).mono ?_; rintro e w5 ⟨rfl, hb⟩; have HB5 := Aside0.mk (below_step (below_alloc HB.out _) hb); have BE5 := Aside0.mk (blk_below (blk_new wr _) hb); have BR5 := Aside0.mk (blk_below (blk_alloc BR.out _) hb); have hfz := fun i_ => blk_frozen BR5.out i_; obtain ⟨he0, he1, he2, he3, he4, he5, he6, he7, he8, he9, he10⟩ := cells11 BE5.out; obtain ⟨hx0, hx1, hx2, hx3, hx4, hx5, hx6, hx7, hx8, hx9, hx10⟩ := cells11 BR5.out; clear hb))
        refine nest11 (C := fun w' => bodyPost Try.prog Try.f16 _ Exit.ret _ w') (BR5.out) rfl ?_
        intro w9 h9 hb9
        refine bodyPost_ret (results_ct rfl _ _ w.heap.size 29 #[.int .i64 v0, .int .i64 v1, .int .i64 v2, .int .i64 v3, .int .i64 v4, .int .i64 v5, .int .i64 v6, .int .i64 v7, .int .u32 (v8 % 4294967296), .int .i64 v9, .string s] (0, 0) _ rfl h9 Try.underlying29 rfl (by kernel_rfl)) rfl ?_
        exact ⟨rfl, hb9 _ _ (by repeat (first | exact HB5.out | apply pw_below_drewN | apply below_alloc)) (Nat.le_refl _)⟩
      · obtain rfl : c = false := by simpa using hc
        clear hc
        rw [if_neg (by decide)] at HR
        obtain ⟨rfl, rfl, rfl, rfl, rfl, rfl, rfl, rfl, rfl, rfl, rfl, rfl⟩ : 0 = r1 ∧ 0 = r2 ∧ 0 = r3 ∧ 0 = r4 ∧ 0 = r5 ∧ 0 = r6 ∧ 0 = r7 ∧ 0 = r8 ∧ 0 = r9 ∧ 0 = r10 ∧ ⟨#[]⟩ = r11 ∧ 7 = r12 := by simpa using HR
        clear HR
        have hq1 : decide (v8 < 0) = false := decide_eq_false hq
        have hq2 : decide (v8 ≥ 4294967296) = false := decide_eq_false hq'
        clear hq hq'
        have BA5 := Aside0.mk (blk_alloc BA2.out (.cells #[.int .i64 v0, .int .i64 v1, .int .i64 v2, .int .i64 v3, .int .i64 v4, .int .i64 v5, .int .i64 v6, .int .i64 v7, .int .u32 (v8 % 4294967296), .int .i64 v9, .string s] 29 (0, 0)))
        obtain ⟨hy0, hy1, hy2, hy3, hy4, hy5, hy6, hy7, hy8, hy9⟩ := cells10 BA5.out
        go_wp2_with (first | (go_at_call 22; refine (thresherref15_Msg.calls k v0 v1 v2 v3 v4 v5 v6 v7 (v8 % 4294967296) v9 s _ _ A.out).mono ?_; rintro e w5 ⟨rfl, hb⟩; have HB5 := Aside0.mk (below_step (below_alloc HB.out _) hb); have BE5 := Aside0.mk (blk_below (blk_new wr _) hb); have BR5 := Aside0.mk (blk_below (blk_alloc BR.out _) hb); have hfz := fun i_ => blk_frozen BR5.out i_; obtain ⟨he0, he1, he2, he3, he4, he5, he6, he7, he8, he9, he10⟩ := cells11 BE5.out; obtain ⟨hx0, hx1, hx2, hx3, hx4, hx5, hx6, hx7, hx8, hx9, hx10⟩ := cells11 BR5.out; clear hb))
        refine nest11 (C := fun w' => bodyPost Try.prog Try.f16 _ Exit.ret _ w') (BR5.out) rfl ?_
        intro w9 h9 hb9
        refine bodyPost_ret (results_ct rfl _ _ w.heap.size 29 #[.int .i64 0, .int .i64 0, .int .i64 0, .int .i64 0, .int .i64 0, .int .i64 0, .int .i64 0, .int .i64 0, .int .u32 0, .int .i64 0, .string ⟨#[]⟩] (0, 0) _ rfl h9 Try.underlying29 rfl (by kernel_rfl)) rfl ?_
        exact ⟨rfl, hb9 _ _ (by repeat (first | exact HB5.out | apply pw_below_drewN | apply below_alloc)) (Nat.le_refl _)⟩
    | succ m =>
      have H := HGO.out
      clear HGO
      simp only [thresherref15_Take.go] at H
      obtain ⟨⟨v, n, e1⟩, hT, H⟩ := Option.bind_eq_some_iff.mp H
      have A := Aside0.mk hT
      clear hT
      simp only at H
      have hl : (l0.length : Int) < 10 := by have := HL.out; omega
      have hlb : decide ((l0.length : Int) < 10) = true := decide_eq_true hl
      by_cases he : e1 = 0
      · subst he
        rw [if_pos rfl] at H
        by_cases h0 : 0 ≤ n
        · rw [if_pos h0] at H
          by_cases h1 : n ≤ (s.size : Int)
          · rw [if_pos h1] at H
            have HN := Aside0.mk H
            clear H
            have hc : wr.cell? ⟨w.heap.size + 1, l0.length, none⟩ = some (.int .i64 0) := by
              have h4 := HL.out
              rw [blk_cell BA.out]
              simp only [thresherref15_Take.arr, List.getElem?_toArray]
              rw [List.getElem?_append_right (by simp), List.getElem?_replicate, if_pos (by simp; omega)]
            have hf : wr.frozen? ⟨w.heap.size + 1, l0.length, none⟩ = false := blk_frozen BA.out _
            have hk0 : decide (0 ≤ n) = true := decide_eq_true h0
            have hk1 : decide (n ≤ (s.size : Int)) = true := decide_eq_true h1
            go_wp2_with (first | (go_at_call 30; refine (thresherref1_Take.calls k s v n 0 _ A.out).mono ?_; rintro e w' ⟨rfl, ⟨nd, rfl⟩⟩))
            go_roundg m
            case measure => omega
            case rel =>
              refine ⟨_, l0 ++ [v], rfl, ?_, ⟨by have := HL.out; simp; omega⟩, HN, ⟨?_⟩, ⟨?_⟩, ⟨?_⟩⟩
              · simp
              · exact Below.setCell (pw_below_drewN HB.out _) (by simp) _
              · exact blk_far (blk_drewN BR.out _) (by simp) _
              · refine blk_put (blk_drewN BA.out _) _ _ ?_
                exact thresherref15_Take.arr_set l0 v (by have := HL.out; omega)
          · rw [if_neg h1] at H
            exact absurd H (by simp)
        · rw [if_neg h0] at H
          exact absurd H (by simp)
      · rw [if_neg he] at H
        obtain ⟨rfl, rfl, rfl⟩ : [] = l ∧ s = s' ∧ e1 = e := by simpa using H
        clear H
        have HR := H'.out
        rw [if_neg he] at HR
        obtain ⟨rfl, rfl, rfl, rfl, rfl, rfl, rfl, rfl, rfl, rfl, rfl, rfl⟩ : 0 = r1 ∧ 0 = r2 ∧ 0 = r3 ∧ 0 = r4 ∧ 0 = r5 ∧ 0 = r6 ∧ 0 = r7 ∧ 0 = r8 ∧ 0 = r9 ∧ 0 = r10 ∧ ⟨#[]⟩ = r11 ∧ e1 = r12 := by simpa using HR
        clear HR H'
        have he1 : (e1 == 0) = false := beq_eq_false_iff_ne.mpr he
        have he2 : (e1 != 0) = true := bne_iff_ne.mpr he
        obtain ⟨hc0, hc1, hc2, hc3, hc4, hc5, hc6, hc7, hc8, hc9, hc10⟩ := cells11 BR.out
        have hfz := fun i_ => blk_frozen BR.out i_
        go_wp2_with (first | (go_at_call 30; refine (thresherref1_Take.calls k s v n e1 _ A.out).mono ?_; rintro e w' ⟨rfl, ⟨nd, rfl⟩⟩))
        refine nest11 (C := fun w' => bodyPost Try.prog Try.f16 _ Exit.ret _ w') (blk_drewN BR.out _) rfl ?_
        intro w9 h9 hb9
        refine bodyPost_ret (results_ct rfl _ _ w.heap.size 29 #[.int .i64 0, .int .i64 0, .int .i64 0, .int .i64 0, .int .i64 0, .int .i64 0, .int .i64 0, .int .i64 0, .int .u32 0, .int .i64 0, .string ⟨#[]⟩] (0, 0) _ rfl h9 Try.underlying29 rfl (by kernel_rfl)) rfl ?_
        exact ⟨rfl, hb9 _ _ (by repeat (first | exact HB.out | apply pw_below_drewN | apply below_alloc)) (Nat.le_refl _)⟩


/-! ### thresherlaw15_num: function 17 -/
def thresherlaw15_num.f (a0 : Int) : Option (Int) := some a0
set_option maxHeartbeats 8000000 in
set_option maxRecDepth 100000 in
theorem thresherlaw15_num.calls (a0 : Int) (r : Int) (w : World) (h : thresherlaw15_num.f a0 = some r) :
    Calls Try.prog 17 #[.int .i64 a0] w fun e w' => e = .returned (.int .i64 r) ∧ Drawn0 w w' := by
  have H : (some a0) = some r := h
  clear h
  obtain rfl := Option.some.inj H
  go_enter Try.func17, Try.ntmps17
  go_wp2
  go_ret
  exact ⟨by first | rfl | (simp; done) | (simp [*]; done), by repeat (first | exact Drawn0.refl _ | apply Drawn0.step)⟩

/-! ### num_turned: function 50 -/
def num_turned.f (a0 : Int) : Option (Int) := some (Go.bits .xor .u64 (IntKind.u64.wrap (wrap64 (a0 * 2))) (IntKind.u64.wrap (a0 / 9223372036854775808)))
set_option maxHeartbeats 8000000 in
set_option maxRecDepth 100000 in
theorem num_turned.calls (a0 : Int) (r : Int) (w : World) (h : num_turned.f a0 = some r) :
    Calls Try.prog 50 #[.int .i64 a0] w fun e w' => e = .returned (.int .u64 r) ∧ Drawn0 w w' := by
  have H : (some (Go.bits .xor .u64 (IntKind.u64.wrap (wrap64 (a0 * 2))) (IntKind.u64.wrap (a0 / 9223372036854775808)))) = some r := h
  clear h
  obtain rfl := Option.some.inj H
  go_enter Try.func50, Try.ntmps50
  go_wp2
  go_ret
  exact ⟨by first | rfl | (simp; done) | (simp [*]; done), by repeat (first | exact Drawn0.refl _ | apply Drawn0.step)⟩

/-! ### num_Bytes: function 45 -/
def num_Bytes.l0 : Nat → Int → List Int → Option (ByteArray)
  | 0, _, _ => none
  | k + 1, x3, x4 => if x3 ≥ 128 then (if x4.length < 140737488355328 then (num_Bytes.l0 k (x3 / 128) (x4 ++ [Go.bits .or .u8 ((x3) % 256) 128])) else (none)) else (if x4.length < 140737488355328 then (some (strOfNums (x4 ++ [(x3) % 256]))) else (none))
def num_Bytes.f (k : Nat) (a0 : Int) : Option (ByteArray) := (num_turned.f a0).bind fun t144 => (num_Bytes.l0 k t144 ([] : List Int))
set_option maxHeartbeats 8000000 in
set_option maxRecDepth 100000 in
theorem num_Bytes.calls (k : Nat) (a0 : Int) (r : ByteArray) (w : World) (h : num_Bytes.f k a0 = some r) :
    Calls Try.prog 45 #[.int .i64 a0] w fun e w' => e = .returned (.string r) ∧ Below w.heap.size w w' := by
  have HB := Aside0.mk (Below.refl w.heap.size w)
  have H : ((num_turned.f a0).bind fun t144 => (num_Bytes.l0 k t144 ([] : List Int))) = some r := h
  clear h
  replace H := Option.bind_eq_some_iff.mp H
  obtain ⟨t144, A20, H⟩ := H
  replace H : (num_Bytes.l0 k t144 ([] : List Int)) = some r := H
  have A2 := Aside0.mk A20
  clear A20
  have H' := Aside0.mk H
  clear H
  go_enter Try.func45, Try.ntmps45
  go_wp2_with (first | ((with_reducible refine gate_callee (f := 50) rfl ?_); refine goesL_ (some 6) rfl rfl Try.func50 (by kernel_rfl) rfl #[.int .i64 a0] rfl (by (try simp only [List.map_toArray, List.map_cons, List.map_nil]); first | done | rfl | (simp only [List.length_drop, List.length_take]; rfl)) ?_; (with_reducible refine (num_turned.calls a0 t144 _ A2.out).mono ?_); rintro e w' ⟨rfl, ⟨nd, rfl⟩⟩; refine ⟨_, rfl, ?_⟩))
  go_loopg [3, 4] k (fun kq v3 v4 w' => ∃ (x3_1 : Int) (x4_1 : List Int), v3 = .int .u64 x3_1 ∧ Aside0 (num_Bytes.l0 kq x3_1 x4_1 = some r) ∧ Aside0 (kq ≤ k) ∧ Aside0 (Kd.R (Kd.int .u8) 5 w' w.heap.size (fun _ => True) v4 x4_1) ∧ Aside0 (Below w.heap.size w w'))
  case atStart => exact ⟨(t144), (([] : List Int)), (by first | rfl | (simp; done) | (simp [*]; done)), H', ⟨Nat.le_refl _⟩, ⟨by first | exact Kd.R_nil _ _ _ _ _ | exact Kd.N_nil _ _ _ _ _ | exact Kd.V_nil _ _ _ _ _ | exact Kd.Q_nil _ _ _ _ _ | exact Kd.S_nil _ _ _ _ _⟩, ⟨by repeat (first | (with_reducible first | exact HB.out | apply below_alloc | apply pw_below_drewN | apply below_drew1) | exact HB.out)⟩⟩
  case round =>
    clear H'
    try clear p2
    obtain ⟨x3_1, x4_1, rfl, HA, HK1, HO_4, HB⟩ := hrel
    cases gk with
    | zero => exact absurd HA.out (by simp [num_Bytes.l0])
    | succ k1 =>
      have H := HA.out
      clear HA
      simp only [num_Bytes.l0] at H
      by_cases c3 : x3_1 ≥ 128
      · rw [if_pos c3] at H
        have c3b0 : decide (128 ≤ x3_1) = true := decide_eq_true c3
        clear c3
        by_cases c4 : x4_1.length < 140737488355328
        · rw [if_pos c4] at H
          have LMc4 := Aside0.mk c4
          clear c4
          obtain ⟨y145, hy145⟩ : ∃ y_ : List Int, y_ = (x4_1 ++ [Go.bits .or .u8 ((x3_1) % 256) 128]) := ⟨_, rfl⟩
          replace H : (num_Bytes.l0 k1 (x3_1 / 128) y145) = some r := by first | (rw [hy145]; with_reducible exact H) | (have H2_ := (Option.bind_some _ _).symm.trans H; rw [hy145]; with_reducible exact H2_) | (have H2_ := (Option.bind_some _ _).symm.trans H; with_reducible exact H2_) | with_reducible exact H | (rw [hy145]; exact H) | exact H
          have Ny145 := Aside0.mk hy145
          clear hy145
          have H' := Aside0.mk H
          clear H
          go_wp2_with (first | ((with_reducible refine gate_builtin (b := .append) (xs := #[.tmp 9, .tmp 13]) rfl ?_); at_builtin; refine Kd.R_append (Kd.int .u8) (w0 := w) w.heap.size rfl (.tmp 9) (.tmp 13) 46 5 (.int .u8 0) 1 rfl Try.underlying46 info5 rfl (by decide) (by omega) u4 x4_1 (Go.bits .or .u8 ((x3_1) % 256) 128) [.int .u8 (Go.bits .or .u8 ((x3_1) % 256) 128)] (fun _ => True) (fun _ => False) rfl rfl ?aP (fun _ hk => hk.elim) ?aF ?aO ?aB ?aS ?aL ?_; (case aP => exact rfl); (case aB => exact (by repeat (first | (with_reducible first | exact HB.out | apply below_alloc | apply pw_below_drewN | apply below_drew1) | exact HB.out))); (case aF => exact (fun _ _ => trivial)); (case aO => exact (by (with_reducible repeat (first | apply Kd.R_alloc | apply Kd.R_drewN | apply Kd.R_drew)); exact HO_4.out)); (case aS => exact (below_size (by repeat (first | (with_reducible first | exact HB.out | apply below_alloc | apply pw_below_drewN | apply below_drew1) | exact HB.out)))); (case aL => have := LMc4.out; omega); intro v146 w5 ho hb hg hat; rw [← Ny145.out] at ho; have n0_ := Aside0.mk (hb); have n1_ := Aside0.mk (ho); clear HB; clear HO_4; have HB := n0_; have HO147 := n1_; clear n0_ n1_; clear ho hb hg hat))
          go_roundg k1
          case measure => have := HK1.out; omega
          case rel => exact ⟨(x3_1 / 128), (y145), (by first | rfl | (simp; done) | (simp [*]; done)), H', ⟨by have := HK1.out; omega⟩, ⟨by (with_reducible repeat (first | apply Kd.R_alloc | apply Kd.R_drewN | apply Kd.R_drew)); exact HO147.out⟩, ⟨by repeat (first | (with_reducible first | exact HB.out | apply below_alloc | apply pw_below_drewN | apply below_drew1) | exact HB.out)⟩⟩
        · rw [if_neg c4] at H
          exact absurd H (by simp)
      · rw [if_neg c3] at H
        have c3b0 : decide (128 ≤ x3_1) = false := decide_eq_false c3
        clear c3
        by_cases c6 : x4_1.length < 140737488355328
        · rw [if_pos c6] at H
          have LMc6 := Aside0.mk c6
          clear c6
          obtain ⟨y148, hy148⟩ : ∃ y_ : List Int, y_ = (x4_1 ++ [(x3_1) % 256]) := ⟨_, rfl⟩
          replace H : (some (strOfNums y148)) = some r := by first | (rw [hy148]; with_reducible exact H) | (have H2_ := (Option.bind_some _ _).symm.trans H; rw [hy148]; with_reducible exact H2_) | (have H2_ := (Option.bind_some _ _).symm.trans H; with_reducible exact H2_) | with_reducible exact H | (rw [hy148]; exact H) | exact H
          have Ny148 := Aside0.mk hy148
          clear hy148
          obtain rfl := Option.some.inj H
          go_wp2_with (first | ((with_reducible refine gate_builtin (b := .append) (xs := #[.tmp 17, .tmp 20]) rfl ?_); at_builtin; refine Kd.R_append (Kd.int .u8) (w0 := w) w.heap.size rfl (.tmp 17) (.tmp 20) 46 5 (.int .u8 0) 1 rfl Try.underlying46 info5 rfl (by decide) (by omega) u4 x4_1 ((x3_1) % 256) [.int .u8 ((x3_1) % 256)] (fun _ => True) (fun _ => False) rfl rfl ?aP (fun _ hk => hk.elim) ?aF ?aO ?aB ?aS ?aL ?_; (case aP => exact rfl); (case aB => exact (by repeat (first | (with_reducible first | exact HB.out | apply below_alloc | apply pw_below_drewN | apply below_drew1) | exact HB.out))); (case aF => exact (fun _ _ => trivial)); (case aO => exact (by (with_reducible repeat (first | apply Kd.R_alloc | apply Kd.R_drewN | apply Kd.R_drew)); exact HO_4.out)); (case aS => exact (below_size (by repeat (first | (with_reducible first | exact HB.out | apply below_alloc | apply pw_below_drewN | apply below_drew1) | exact HB.out)))); (case aL => have := LMc6.out; omega); intro v149 w7 ho hb hg hat; rw [← Ny148.out] at ho; have n0_ := Aside0.mk (hb); have n1_ := Aside0.mk (ho); clear HB; clear HO_4; have HB := n0_; have HO150 := n1_; clear n0_ n1_; clear ho hb hg hat; have hcv8 := own_string (P := Try.prog) Try.underlying46 Try.underlying5 Try.underlying9 (Kd.own_of_R HO150.out)))
          go_ret
          exact ⟨by first | rfl | (simp [errW_none, errW_some] <;> rfl) | (simp [*, errW_none, errW_some] <;> rfl), by repeat (first | (with_reducible first | exact HB.out | apply below_alloc | apply pw_below_drewN | apply below_drew1) | exact HB.out)⟩
        · rw [if_neg c6] at H
          exact absurd H (by simp)

end Go.Proofs.Ytjboibdoelkfpaa.Q
