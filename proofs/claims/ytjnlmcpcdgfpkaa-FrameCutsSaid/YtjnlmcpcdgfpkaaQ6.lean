/- Contracts of the Go functions that these laws reach: each call answers what the plain Lean function beside it says. Written by a program of this session (pp.py). -/
import Derived.Test.YtjnlmcpcdgfpkaaQ0
import Derived.Test.YtjnlmcpcdgfpkaaQ3
import Derived.Test.YtjnlmcpcdgfpkaaQ4
import Derived.Test.YtjnlmcpcdgfpkaaQ5
namespace Go.Proofs.Ytjnlmcpcdgfpkaa.Q
open Go.RowKit Go.Proofs.YtjnlmcpcdgfpkaaW.PrintWords Go.Proofs.YtjnlmcpcdgfpkaaW.PrintLast Go.Proofs.YtjnlmcpcdgfpkaaW.PrintMore
attribute [local go_sem] max2_int min2_int max_two min_two max_three min_three max_four min_four   -- for this text's walks alone
set_option linter.unusedVariables false
set_option linter.unusedSimpArgs false

/-! ### thresherlaw5_FrameBytes: function 4 -/
mutual
def thresherlaw5_FrameBytes.l0 : Nat → List ByteArray → ByteArray → Int → Option (Bool)
  | 0, _, _, _ => none
  | k + 1, x0, x3, x4 => if x4 < (x0.length : Int) then (thresherlaw5_FrameBytes.j1 k x0 x3 x4 (decide (x4 < 10))) else (thresherlaw5_FrameBytes.j1 k x0 x3 x4 false)
def thresherlaw5_FrameBytes.j1 : Nat → List ByteArray → ByteArray → Int → Bool → Option (Bool)
  | 0, _, _, _, _ => none
  | k + 1, x0, x3, x4, x30 => if x30 = true then (if 0 ≤ x4 then (if x4 < (x0.length : Int) then ((frame_Bytes.f k (rdOf ByteArray.empty x0 x4)).bind fun bt209 => ((thresherlaw5_num.f bt209.2).bind fun t211 => (if t211 = 0 then ((thresherref3_Frame.f k (rdOf ByteArray.empty x0 x4)).bind fun t213 => (thresherlaw5_FrameBytes.j2 k x0 x3 x4 bt209.1 (bt209.1.toList != t213.toList))) else (thresherlaw5_FrameBytes.j2 k x0 x3 x4 bt209.1 true)))) else (none)) else (none)) else (if 32769 ≤ 281474976710656 then ((frame_Bytes.f k (strOfNums (List.replicate 32769 0))).bind fun bt204 => ((thresherlaw5_num.f bt204.2).bind fun t206 => (if t206 = 2 then ((thresherlaw5_wakes.f k).bind fun t207 => (some t207)) else (some false)))) else (none))
def thresherlaw5_FrameBytes.j2 : Nat → List ByteArray → ByteArray → Int → ByteArray → Bool → Option (Bool)
  | 0, _, _, _, _, _ => none
  | k + 1, x0, x3, x4, x5, x52 => if x52 = true then (some false) else (if 0 ≤ x4 then (if x4 < (x0.length : Int) then ((thresherref3_Frame.f k (rdOf ByteArray.empty x0 x4)).bind fun t215 => (if x3.size + t215.size ≤ 9223372036854775807 then (if x5.size + (rdOf ByteArray.empty x0 x4).size ≤ 9223372036854775807 then (if x3.size + t215.size + (rdOf ByteArray.empty x0 x4).size ≤ 9223372036854775807 then (thresherlaw5_FrameBytes.l1 k x0 (x3 ++ t215) x4 (([rdOf ByteArray.empty x0 x4, x5 ++ (rdOf ByteArray.empty x0 x4), (x3 ++ t215) ++ (rdOf ByteArray.empty x0 x4), x3 ++ t215] : List ByteArray)) 0) else (none)) else (none)) else (none))) else (none)) else (none))
def thresherlaw5_FrameBytes.l1 : Nat → List ByteArray → ByteArray → Int → List ByteArray → Int → Option (Bool)
  | 0, _, _, _, _, _ => none
  | k + 1, x0, x3, x4, x7, x8 => if x8 < (x7.length : Int) then (if 0 ≤ x8 then ((frame_Take.f k (rdOf ByteArray.empty x7 x8)).bind fun bt223 => ((thresherref3_TakeFrame.f k (rdOf ByteArray.empty x7 x8)).bind fun bt227 => ((frame_Scan.f k (rdOf ByteArray.empty x7 x8)).bind fun bt231 => ((thresherref3_Scan.f k (rdOf ByteArray.empty x7 x8)).bind fun bt236 => (if bt223.1.toList = bt227.1.toList then (if bt223.2.1 = bt227.2.1 then ((thresherlaw5_num.f bt223.2.2).bind fun t240 => (if t240 = bt227.2.2 then ((thresherref0_EqStrings.f k bt231.1 bt236.1).bind fun t241 => (if t241 = true then (if bt231.2 = bt236.2 then (thresherlaw5_FrameBytes.l1 k x0 x3 x4 x7 (wrap64 (x8 + 1))) else (some false)) else (some false))) else (some false))) else (some false)) else (some false)))))) else (none)) else (thresherlaw5_FrameBytes.l0 k x0 x3 (wrap64 (x4 + 1)))
end
def thresherlaw5_FrameBytes.f (k : Nat) (l0 : List ByteArray) : Option (Bool) := (thresherlaw5_heavy.f k l0).bind fun t200 => (if t200 = true then (some true) else (thresherlaw5_FrameBytes.l0 k l0 (⟨#[]⟩ : ByteArray) 0))
theorem thresherlaw5_FrameBytes.mono_l : ∀ k, (∀ y0 y1 y2, LeO (thresherlaw5_FrameBytes.l0 k y0 y1 y2) (thresherlaw5_FrameBytes.l0 (k + 1) y0 y1 y2)) ∧ (∀ y0 y1 y2 y3, LeO (thresherlaw5_FrameBytes.j1 k y0 y1 y2 y3) (thresherlaw5_FrameBytes.j1 (k + 1) y0 y1 y2 y3)) ∧ (∀ y0 y1 y2 y3 y4, LeO (thresherlaw5_FrameBytes.j2 k y0 y1 y2 y3 y4) (thresherlaw5_FrameBytes.j2 (k + 1) y0 y1 y2 y3 y4)) ∧ (∀ y0 y1 y2 y3 y4, LeO (thresherlaw5_FrameBytes.l1 k y0 y1 y2 y3 y4) (thresherlaw5_FrameBytes.l1 (k + 1) y0 y1 y2 y3 y4))
  | 0 => ⟨fun _ _ _ r h => by simp [thresherlaw5_FrameBytes.l0] at h, fun _ _ _ _ r h => by simp [thresherlaw5_FrameBytes.j1] at h, fun _ _ _ _ _ r h => by simp [thresherlaw5_FrameBytes.j2] at h, fun _ _ _ _ _ r h => by simp [thresherlaw5_FrameBytes.l1] at h⟩
  | k + 1 => by
    obtain ⟨ih0, ih1, ih2, ih3⟩ := thresherlaw5_FrameBytes.mono_l k
    refine ⟨?_, ?_, ?_, ?_⟩
    · intro y0 y1 y2
      unfold thresherlaw5_FrameBytes.l0
      repeat' first
      | (with_reducible exact ih0 _ _ _)
      | (with_reducible exact ih1 _ _ _ _)
      | (with_reducible exact ih2 _ _ _ _ _)
      | (with_reducible exact ih3 _ _ _ _ _)
      | (with_reducible exact frame_Bytes.mono _ _)
      | (with_reducible exact frame_Scan.mono _ _)
      | (with_reducible exact frame_Take.mono _ _)
      | (with_reducible exact thresherlaw5_heavy.mono _ _)
      | (with_reducible exact thresherlaw5_wakes.mono _)
      | (with_reducible exact thresherref0_EqStrings.mono _ _ _)
      | (with_reducible exact thresherref3_Frame.mono _ _)
      | (with_reducible exact thresherref3_Scan.mono _ _)
      | (with_reducible exact thresherref3_TakeFrame.mono _ _)
      | (with_reducible exact LeO.refl _)
      | (with_reducible exact LeO.none _)
      | (with_reducible refine LeO.ite ?_ ?_)
      | (with_reducible refine LeO.bind ?_ (fun _ => ?_))
      | exact ih0 _ _ _
      | exact ih1 _ _ _ _
      | exact ih2 _ _ _ _ _
      | exact ih3 _ _ _ _ _
      | exact frame_Bytes.mono _ _
      | exact frame_Scan.mono _ _
      | exact frame_Take.mono _ _
      | exact thresherlaw5_heavy.mono _ _
      | exact thresherlaw5_wakes.mono _
      | exact thresherref0_EqStrings.mono _ _ _
      | exact thresherref3_Frame.mono _ _
      | exact thresherref3_Scan.mono _ _
      | exact thresherref3_TakeFrame.mono _ _
      | exact LeO.none _
      | refine LeO.ite ?_ ?_
      | refine LeO.bind ?_ (fun _ => ?_)
    · intro y0 y1 y2 y3
      unfold thresherlaw5_FrameBytes.j1
      repeat' first
      | (with_reducible exact ih0 _ _ _)
      | (with_reducible exact ih1 _ _ _ _)
      | (with_reducible exact ih2 _ _ _ _ _)
      | (with_reducible exact ih3 _ _ _ _ _)
      | (with_reducible exact frame_Bytes.mono _ _)
      | (with_reducible exact frame_Scan.mono _ _)
      | (with_reducible exact frame_Take.mono _ _)
      | (with_reducible exact thresherlaw5_heavy.mono _ _)
      | (with_reducible exact thresherlaw5_wakes.mono _)
      | (with_reducible exact thresherref0_EqStrings.mono _ _ _)
      | (with_reducible exact thresherref3_Frame.mono _ _)
      | (with_reducible exact thresherref3_Scan.mono _ _)
      | (with_reducible exact thresherref3_TakeFrame.mono _ _)
      | (with_reducible exact LeO.refl _)
      | (with_reducible exact LeO.none _)
      | (with_reducible refine LeO.ite ?_ ?_)
      | (with_reducible refine LeO.bind ?_ (fun _ => ?_))
      | exact ih0 _ _ _
      | exact ih1 _ _ _ _
      | exact ih2 _ _ _ _ _
      | exact ih3 _ _ _ _ _
      | exact frame_Bytes.mono _ _
      | exact frame_Scan.mono _ _
      | exact frame_Take.mono _ _
      | exact thresherlaw5_heavy.mono _ _
      | exact thresherlaw5_wakes.mono _
      | exact thresherref0_EqStrings.mono _ _ _
      | exact thresherref3_Frame.mono _ _
      | exact thresherref3_Scan.mono _ _
      | exact thresherref3_TakeFrame.mono _ _
      | exact LeO.none _
      | refine LeO.ite ?_ ?_
      | refine LeO.bind ?_ (fun _ => ?_)
    · intro y0 y1 y2 y3 y4
      unfold thresherlaw5_FrameBytes.j2
      repeat' first
      | (with_reducible exact ih0 _ _ _)
      | (with_reducible exact ih1 _ _ _ _)
      | (with_reducible exact ih2 _ _ _ _ _)
      | (with_reducible exact ih3 _ _ _ _ _)
      | (with_reducible exact frame_Bytes.mono _ _)
      | (with_reducible exact frame_Scan.mono _ _)
      | (with_reducible exact frame_Take.mono _ _)
      | (with_reducible exact thresherlaw5_heavy.mono _ _)
      | (with_reducible exact thresherlaw5_wakes.mono _)
      | (with_reducible exact thresherref0_EqStrings.mono _ _ _)
      | (with_reducible exact thresherref3_Frame.mono _ _)
      | (with_reducible exact thresherref3_Scan.mono _ _)
      | (with_reducible exact thresherref3_TakeFrame.mono _ _)
      | (with_reducible exact LeO.refl _)
      | (with_reducible exact LeO.none _)
      | (with_reducible refine LeO.ite ?_ ?_)
      | (with_reducible refine LeO.bind ?_ (fun _ => ?_))
      | exact ih0 _ _ _
      | exact ih1 _ _ _ _
      | exact ih2 _ _ _ _ _
      | exact ih3 _ _ _ _ _
      | exact frame_Bytes.mono _ _
      | exact frame_Scan.mono _ _
      | exact frame_Take.mono _ _
      | exact thresherlaw5_heavy.mono _ _
      | exact thresherlaw5_wakes.mono _
      | exact thresherref0_EqStrings.mono _ _ _
      | exact thresherref3_Frame.mono _ _
      | exact thresherref3_Scan.mono _ _
      | exact thresherref3_TakeFrame.mono _ _
      | exact LeO.none _
      | refine LeO.ite ?_ ?_
      | refine LeO.bind ?_ (fun _ => ?_)
    · intro y0 y1 y2 y3 y4
      unfold thresherlaw5_FrameBytes.l1
      repeat' first
      | (with_reducible exact ih0 _ _ _)
      | (with_reducible exact ih1 _ _ _ _)
      | (with_reducible exact ih2 _ _ _ _ _)
      | (with_reducible exact ih3 _ _ _ _ _)
      | (with_reducible exact frame_Bytes.mono _ _)
      | (with_reducible exact frame_Scan.mono _ _)
      | (with_reducible exact frame_Take.mono _ _)
      | (with_reducible exact thresherlaw5_heavy.mono _ _)
      | (with_reducible exact thresherlaw5_wakes.mono _)
      | (with_reducible exact thresherref0_EqStrings.mono _ _ _)
      | (with_reducible exact thresherref3_Frame.mono _ _)
      | (with_reducible exact thresherref3_Scan.mono _ _)
      | (with_reducible exact thresherref3_TakeFrame.mono _ _)
      | (with_reducible exact LeO.refl _)
      | (with_reducible exact LeO.none _)
      | (with_reducible refine LeO.ite ?_ ?_)
      | (with_reducible refine LeO.bind ?_ (fun _ => ?_))
      | exact ih0 _ _ _
      | exact ih1 _ _ _ _
      | exact ih2 _ _ _ _ _
      | exact ih3 _ _ _ _ _
      | exact frame_Bytes.mono _ _
      | exact frame_Scan.mono _ _
      | exact frame_Take.mono _ _
      | exact thresherlaw5_heavy.mono _ _
      | exact thresherlaw5_wakes.mono _
      | exact thresherref0_EqStrings.mono _ _ _
      | exact thresherref3_Frame.mono _ _
      | exact thresherref3_Scan.mono _ _
      | exact thresherref3_TakeFrame.mono _ _
      | exact LeO.none _
      | refine LeO.ite ?_ ?_
      | refine LeO.bind ?_ (fun _ => ?_)
theorem thresherlaw5_FrameBytes.mono : ∀ a0 k, LeO (thresherlaw5_FrameBytes.f k a0) (thresherlaw5_FrameBytes.f (k + 1) a0) := by
  intro a0 k
  obtain ⟨ih0, ih1, ih2, ih3⟩ := thresherlaw5_FrameBytes.mono_l k
  unfold thresherlaw5_FrameBytes.f
  repeat' first
      | (with_reducible exact ih0 _ _ _)
      | (with_reducible exact ih1 _ _ _ _)
      | (with_reducible exact ih2 _ _ _ _ _)
      | (with_reducible exact ih3 _ _ _ _ _)
      | (with_reducible exact frame_Bytes.mono _ _)
      | (with_reducible exact frame_Scan.mono _ _)
      | (with_reducible exact frame_Take.mono _ _)
      | (with_reducible exact thresherlaw5_heavy.mono _ _)
      | (with_reducible exact thresherlaw5_wakes.mono _)
      | (with_reducible exact thresherref0_EqStrings.mono _ _ _)
      | (with_reducible exact thresherref3_Frame.mono _ _)
      | (with_reducible exact thresherref3_Scan.mono _ _)
      | (with_reducible exact thresherref3_TakeFrame.mono _ _)
      | (with_reducible exact LeO.refl _)
      | (with_reducible exact LeO.none _)
      | (with_reducible refine LeO.ite ?_ ?_)
      | (with_reducible refine LeO.bind ?_ (fun _ => ?_))
      | exact ih0 _ _ _
      | exact ih1 _ _ _ _
      | exact ih2 _ _ _ _ _
      | exact ih3 _ _ _ _ _
      | exact frame_Bytes.mono _ _
      | exact frame_Scan.mono _ _
      | exact frame_Take.mono _ _
      | exact thresherlaw5_heavy.mono _ _
      | exact thresherlaw5_wakes.mono _
      | exact thresherref0_EqStrings.mono _ _ _
      | exact thresherref3_Frame.mono _ _
      | exact thresherref3_Scan.mono _ _
      | exact thresherref3_TakeFrame.mono _ _
      | exact LeO.none _
      | refine LeO.ite ?_ ?_
      | refine LeO.bind ?_ (fun _ => ?_)
def thresherlaw5_FrameBytes.T11 : Bool × List (List Nat × List Nat) := (true, [([], []), ([], []), ([0, 1], [0, 1]), ([2], [2]), ([], []), ([], []), ([], []), ([5, 6], [5, 6]), ([7], [7]), ([4, 8], [4, 8]), ([], []), ([], []), ([], []), ([11, 12], [11, 12]), ([13], [13]), ([10, 14], [10, 14]), ([], []), ([3, 9, 15, 16], [3, 9, 15, 16]), ([17, 0, 1, 2, 3, 4, 5, 6, 7, 8, 9, 10, 11, 12, 13, 14, 15, 16, 17], [17])])
def thresherlaw5_FrameBytes.B11 : List Nat := [0, 0, 3, 7, 0, 0, 0, 96, 224, 496, 0, 0, 0, 6144, 14336, 31744, 0, 131071, 262143]
theorem thresherlaw5_FrameBytes.tab11 : rtab .any (opsOf Try.f4 11) = thresherlaw5_FrameBytes.T11 := by kernel_rfl
theorem thresherlaw5_FrameBytes.bits11 : waitsOk thresherlaw5_FrameBytes.T11.2 thresherlaw5_FrameBytes.B11 = true := by kernel_rfl
set_option maxHeartbeats 8000000 in
set_option maxRecDepth 100000 in
theorem thresherlaw5_FrameBytes.calls (k : Nat) (A0 : Option Addr) (c0 : Nat) (l0 : List ByteArray) (r : Bool) (w : World) (hr0 : Kd.C Kd.string w A0 l0.length l0) (hc0 : l0.length ≤ c0) (h : thresherlaw5_FrameBytes.f k l0 = some r) :
    Calls Try.prog 4 #[.slice A0 l0.length c0] w fun e w' => e = .returned (.bool r) ∧ Below w.heap.size w w' := by
  have HR0 := Aside0.mk hr0
  have HC0 := Aside0.mk hc0
  clear hr0 hc0
  have HB := Aside0.mk (Below.refl w.heap.size w)
  have H : ((thresherlaw5_heavy.f k l0).bind fun t200 => (if t200 = true then (some true) else (thresherlaw5_FrameBytes.l0 k l0 (⟨#[]⟩ : ByteArray) 0))) = some r := h
  clear h
  replace H := Option.bind_eq_some_iff.mp H
  obtain ⟨t200, A20, H⟩ := H
  replace H : (if t200 = true then (some true) else (thresherlaw5_FrameBytes.l0 k l0 (⟨#[]⟩ : ByteArray) 0)) = some r := H
  have A2 := Aside0.mk A20
  clear A20
  by_cases c3 : t200 = true
  · subst c3
    have H1 : (some true) = some r := by rw [if_pos rfl] at H; exact H
    clear H
    have H := H1
    clear H1
    obtain rfl := Option.some.inj H
    go_enter Try.func4, Try.ntmps4
    go_wp2_with (first | ((with_reducible refine gate_callee (f := 15) rfl ?_); refine goesL_ (some 22) rfl rfl Try.func15 (by kernel_rfl) rfl #[.slice A0 l0.length c0] rfl (by (try simp only [List.map_toArray, List.map_cons, List.map_nil]); first | done | rfl | (simp only [List.length_drop, List.length_take]; rfl)) ?_; (with_reducible refine (thresherlaw5_heavy.calls k _ _ l0 true _ ?side1 ?side2 A2.out).mono ?_); (case side1 => repeat (first | exact HR0.out | (with_reducible refine Kd.C_alloc ?_ _) | (with_reducible refine Kd.C_drewN ?_ _) | (with_reducible refine Kd.C_drew ?_))); (case side2 => exact HC0.out); rintro e w' ⟨rfl, ⟨nd, rfl⟩⟩; refine ⟨_, rfl, ?_⟩))
    go_ret
    exact ⟨by first | rfl | (simp [errW_none, errW_some] <;> rfl) | (simp [*, errW_none, errW_some] <;> rfl), by repeat (first | (with_reducible first | exact HB.out | apply below_alloc | apply pw_below_drewN | apply below_drew1) | exact HB.out)⟩
  · replace c3 := Bool.eq_false_iff.mpr c3
    subst c3
    have H1 : (thresherlaw5_FrameBytes.l0 k l0 (⟨#[]⟩ : ByteArray) 0) = some r := by rw [if_neg (show ¬ (false = true) by decide)] at H; exact H
    clear H
    have H := H1
    clear H1
    have H' := Aside0.mk H
    clear H
    go_enter Try.func4, Try.ntmps4
    go_wp2_with (first | ((with_reducible refine gate_callee (f := 15) rfl ?_); refine goesL_ (some 22) rfl rfl Try.func15 (by kernel_rfl) rfl #[.slice A0 l0.length c0] rfl (by (try simp only [List.map_toArray, List.map_cons, List.map_nil]); first | done | rfl | (simp only [List.length_drop, List.length_take]; rfl)) ?_; (with_reducible refine (thresherlaw5_heavy.calls k _ _ l0 false _ ?side1 ?side2 A2.out).mono ?_); (case side1 => repeat (first | exact HR0.out | (with_reducible refine Kd.C_alloc ?_ _) | (with_reducible refine Kd.C_drewN ?_ _) | (with_reducible refine Kd.C_drew ?_))); (case side2 => exact HC0.out); rintro e w' ⟨rfl, ⟨nd, rfl⟩⟩; refine ⟨_, rfl, ?_⟩))
    go_loopg [3, 4] k (fun kq v3 v4 w' => ∃ (x3_1 : ByteArray) (x4_1 : Int), v3 = .string x3_1 ∧ v4 = .int .i64 x4_1 ∧ Aside0 (thresherlaw5_FrameBytes.l0 kq l0 x3_1 x4_1 = some r) ∧ Aside0 (kq ≤ k) ∧ Aside0 (Below w.heap.size w w'))
    case atStart => exact ⟨((⟨#[]⟩ : ByteArray)), (0), (by first | rfl | (simp; done) | (simp [*]; done)), (by first | rfl | (simp; done) | (simp [*]; done)), H', ⟨Nat.le_refl _⟩, ⟨by repeat (first | (with_reducible first | exact HB.out | apply below_alloc | apply pw_below_drewN | apply below_drew1) | exact HB.out)⟩⟩
    case round =>
      clear H'
      (try clear c1); (try clear p2); (try clear c3)
      obtain ⟨x3_1, x4_1, rfl, rfl, HA, HK1, HB⟩ := hrel
      cases gk with
      | zero => exact absurd HA.out (by simp [thresherlaw5_FrameBytes.l0])
      | succ k1 =>
        have H := HA.out
        clear HA
        simp only [thresherlaw5_FrameBytes.l0] at H
        have HC4 := Aside0.mk H
        clear H
        go_upto_region 5 with (fail)
        go_cut [30] (fun v30 wc => ∃ (kq : Nat) (x30_3 : Bool), v30 = .bool x30_3 ∧ Aside0 (thresherlaw5_FrameBytes.j1 kq l0 x3_1 x4_1 x30_3 = some r) ∧ Aside0 (kq ≤ k1) ∧ Aside0 (Below w.heap.size w wc))
        case first =>
          have H := HC4.out
          clear HC4
          by_cases c5 : x4_1 < (l0.length : Int)
          · rw [if_pos c5] at H
            have c5b0 : decide (x4_1 < (l0.length : Int)) = true := decide_eq_true c5
            clear c5
            (first | rw [c5b0] | (simp only [i64_w, i32_w]; rw [c5b0]) | skip)
            have H' := Aside0.mk H
            clear H
            go_wp2
            go_meet
            case rel => exact ⟨_, (decide (x4_1 < 10)), (by first | rfl | (simp; done) | (simp [*]; done)), H', ⟨by have := HK1.out; first | omega | exact Nat.le_refl _⟩, ⟨by repeat (first | (with_reducible first | exact HB.out | apply below_alloc | apply pw_below_drewN | apply below_drew1) | exact HB.out)⟩⟩
          · rw [if_neg c5] at H
            have c5b0 : decide (x4_1 < (l0.length : Int)) = false := decide_eq_false c5
            clear c5
            (first | rw [c5b0] | (simp only [i64_w, i32_w]; rw [c5b0]) | skip)
            have H' := Aside0.mk H
            clear H
            go_wp2
            go_meet
            case rel => exact ⟨_, (false), (by first | rfl | (simp; done) | (simp [*]; done)), H', ⟨by have := HK1.out; first | omega | exact Nat.le_refl _⟩, ⟨by repeat (first | (with_reducible first | exact HB.out | apply below_alloc | apply pw_below_drewN | apply below_drew1) | exact HB.out)⟩⟩
        case rest =>
          clear HC4
          (try clear c1); (try clear p2); (try clear c3); (try clear c4); (try clear c5); (try clear c5b0); (try clear p2)
          obtain ⟨kq, x30_3, rfl, HA, HJ3, HB⟩ := hcut
          cases kq with
          | zero => exact absurd HA.out (by simp [thresherlaw5_FrameBytes.j1])
          | succ kj3 =>
            have H := HA.out
            clear HA
            simp only [thresherlaw5_FrameBytes.j1] at H
            by_cases c6 : x30_3 = true
            · subst c6
              have H1 : (if 0 ≤ x4_1 then (if x4_1 < (l0.length : Int) then ((frame_Bytes.f kj3 (rdOf ByteArray.empty l0 x4_1)).bind fun bt209 => ((thresherlaw5_num.f bt209.2).bind fun t211 => (if t211 = 0 then ((thresherref3_Frame.f kj3 (rdOf ByteArray.empty l0 x4_1)).bind fun t213 => (thresherlaw5_FrameBytes.j2 kj3 l0 x3_1 x4_1 bt209.1 (bt209.1.toList != t213.toList))) else (thresherlaw5_FrameBytes.j2 kj3 l0 x3_1 x4_1 bt209.1 true)))) else (none)) else (none)) = some r := by rw [if_pos rfl] at H; exact H
              clear H
              have H := H1
              clear H1
              by_cases c7 : 0 ≤ x4_1
              · rw [if_pos c7] at H
                have c7b0 : decide (0 ≤ x4_1) = true := decide_eq_true c7
                clear c7
                by_cases c8 : x4_1 < (l0.length : Int)
                · rw [if_pos c8] at H
                  have c8b0 : decide (x4_1 < (l0.length : Int)) = true := decide_eq_true c8
                  clear c8
                  replace H := Option.bind_eq_some_iff.mp H
                  obtain ⟨⟨t209, t210⟩, A90, H⟩ := H
                  replace H : ((thresherlaw5_num.f t210).bind fun t211 => (if t211 = 0 then ((thresherref3_Frame.f kj3 (rdOf ByteArray.empty l0 x4_1)).bind fun t213 => (thresherlaw5_FrameBytes.j2 kj3 l0 x3_1 x4_1 t209 (t209.toList != t213.toList))) else (thresherlaw5_FrameBytes.j2 kj3 l0 x3_1 x4_1 t209 true))) = some r := H
                  have A9 := Aside0.mk A90
                  clear A90
                  have HC10 := Aside0.mk H
                  clear H
                  have p208 : 0 ≤ (x4_1 : Int) := of_decide_eq_true (by first | (with_reducible assumption) | assumption)
                  have q208 : x4_1 < (l0.length : Int) := of_decide_eq_true (by first | (with_reducible assumption) | assumption)
                  obtain ⟨ad208, e208, hx208_0⟩ := Kd.at_string HR0.out x4_1 p208 q208
                  cases e208
                  replace hx208_0 := (HB.out.cell (World.block_lt_of_cell? w _ hx208_0)).trans hx208_0
                  replace p208 := eq_true p208
                  replace q208 := eq_true q208
                  go_upto_region 8 with (first | ((with_reducible refine gate_callee (f := 16) rfl ?_); refine goesL_ (some 38) rfl rfl Try.func16 (by kernel_rfl) rfl #[.string (rdOf ByteArray.empty l0 x4_1)] rfl (by (try simp only [List.map_toArray, List.map_cons, List.map_nil]); first | done | rfl | (simp only [List.length_drop, List.length_take]; rfl)) ?_; (with_reducible refine (frame_Bytes.calls kj3 (rdOf ByteArray.empty l0 x4_1) t209 t210 _ A9.out).mono ?_); rintro e w11 ⟨rfl, hb⟩; refine ⟨_, rfl, ?_⟩; have n0_ := Aside0.mk (below_step (by repeat (first | (with_reducible first | exact HB.out | apply below_alloc | apply pw_below_drewN | apply below_drew1) | exact HB.out)) hb); clear HB; have HB := n0_; clear n0_; (try clear hb); (try clear hb2); (try clear hk); (try clear hi)))
                  (try simp only [Act.put, List.setIfInBounds_toArray, List.set_cons_zero, List.set_cons_succ])
                  go_cut [52] (fun v52 wc => ∃ (kq : Nat) (x52_9 : Bool), v52 = .bool x52_9 ∧ Aside0 (thresherlaw5_FrameBytes.j2 kq l0 x3_1 x4_1 t209 x52_9 = some r) ∧ Aside0 (kq ≤ kj3) ∧ Aside0 (Below w.heap.size w wc))
                  case first =>
                    have H := HC10.out
                    clear HC10
                    replace H := Option.bind_eq_some_iff.mp H
                    obtain ⟨t211, A120, H⟩ := H
                    replace H : (if t211 = 0 then ((thresherref3_Frame.f kj3 (rdOf ByteArray.empty l0 x4_1)).bind fun t213 => (thresherlaw5_FrameBytes.j2 kj3 l0 x3_1 x4_1 t209 (t209.toList != t213.toList))) else (thresherlaw5_FrameBytes.j2 kj3 l0 x3_1 x4_1 t209 true)) = some r := H
                    have A12 := Aside0.mk A120
                    clear A120
                    by_cases c13 : t211 = 0
                    · rw [if_pos c13] at H
                      have c13b0 : (t211 == 0) = true := beq_iff_eq.mpr c13
                      have c13b1 : (t211 != 0) = false := bne_eq_false_iff_eq.mpr c13
                      clear c13
                      (first | rw [c13b0] | (simp only [i64_w, i32_w]; rw [c13b0]) | skip)
                      replace H := Option.bind_eq_some_iff.mp H
                      obtain ⟨t213, A140, H⟩ := H
                      replace H : (thresherlaw5_FrameBytes.j2 kj3 l0 x3_1 x4_1 t209 (t209.toList != t213.toList)) = some r := H
                      have A14 := Aside0.mk A140
                      clear A140
                      have H' := Aside0.mk H
                      clear H
                      go_wp2_with (first | ((with_reducible refine gate_callee (f := 17) rfl ?_); refine goesL_ (some 42) rfl rfl Try.func17 (by kernel_rfl) rfl #[.int .i64 t210] rfl (by (try simp only [List.map_toArray, List.map_cons, List.map_nil]); first | done | rfl | (simp only [List.length_drop, List.length_take]; rfl)) ?_; (with_reducible refine (thresherlaw5_num.calls t210 t211 _ A12.out).mono ?_); rintro e w' ⟨rfl, ⟨nd, rfl⟩⟩; refine ⟨_, rfl, ?_⟩; have p212 : 0 ≤ (x4_1 : Int) := of_decide_eq_true (by first | (with_reducible assumption) | assumption); have q212 : x4_1 < (l0.length : Int) := of_decide_eq_true (by first | (with_reducible assumption) | assumption); obtain ⟨ad212, e212, hx212_0⟩ := Kd.at_string HR0.out x4_1 p212 q212; obtain rfl : ad208 = ad212 := (by injection e212); replace hx212_0 := (HB.out.cell (World.block_lt_of_cell? w _ hx212_0)).trans hx212_0; replace p212 := eq_true p212; replace q212 := eq_true q212) | (go_at_call 18; (with_reducible refine (thresherref3_Frame.calls kj3 (rdOf ByteArray.empty l0 x4_1) t213 _ A14.out).mono ?_); rintro e w15 ⟨rfl, hb⟩; have n0_ := Aside0.mk (below_step (by repeat (first | (with_reducible first | exact HB.out | apply below_alloc | apply pw_below_drewN | apply below_drew1) | exact HB.out)) hb); clear HB; have HB := n0_; clear n0_; (try clear hb); (try clear hb2); (try clear hk); (try clear hi)))
                      go_meet
                      case rel => exact ⟨_, ((t209.toList != t213.toList)), (by first | rfl | (simp; done) | (simp [*]; done)), H', ⟨by have := HK1.out; have := HJ3.out; first | omega | exact Nat.le_refl _⟩, ⟨by repeat (first | (with_reducible first | exact HB.out | apply below_alloc | apply pw_below_drewN | apply below_drew1) | exact HB.out)⟩⟩
                    · rw [if_neg c13] at H
                      have c13b0 : (t211 == 0) = false := beq_eq_false_iff_ne.mpr c13
                      have c13b1 : (t211 != 0) = true := bne_iff_ne.mpr c13
                      (first | rw [c13b0] | (simp only [i64_w, i32_w]; rw [c13b0]) | skip)
                      have H' := Aside0.mk H
                      clear H
                      go_wp2_with (first | ((with_reducible refine gate_callee (f := 17) rfl ?_); refine goesL_ (some 42) rfl rfl Try.func17 (by kernel_rfl) rfl #[.int .i64 t210] rfl (by (try simp only [List.map_toArray, List.map_cons, List.map_nil]); first | done | rfl | (simp only [List.length_drop, List.length_take]; rfl)) ?_; (with_reducible refine (thresherlaw5_num.calls t210 t211 _ A12.out).mono ?_); rintro e w' ⟨rfl, ⟨nd, rfl⟩⟩; refine ⟨_, rfl, ?_⟩))
                      go_meet
                      case rel => exact ⟨_, (true), (by first | rfl | (simp; done) | (simp [*]; done)), H', ⟨by have := HK1.out; have := HJ3.out; first | omega | exact Nat.le_refl _⟩, ⟨by repeat (first | (with_reducible first | exact HB.out | apply below_alloc | apply pw_below_drewN | apply below_drew1) | exact HB.out)⟩⟩
                  case rest =>
                    clear HC10
                    (try clear c1); (try clear p2); (try clear q2); (try clear hx2); (try clear c3); (try clear c4); (try clear c5); (try clear c5b0); (try clear c6); (try clear c7); (try clear c7b0); (try clear c8); (try clear c8b0); (try clear c13); (try clear c13b0); (try clear c13b1); (try clear c15); (try clear hx208_0); (try clear hx212_0); (try clear p2); (try clear p208); (try clear p212); (try clear q208); (try clear q212)
                    obtain ⟨kq, x52_9, rfl, HA, HJ9, HB⟩ := hcut
                    cases kq with
                    | zero => exact absurd HA.out (by simp [thresherlaw5_FrameBytes.j2])
                    | succ kj9 =>
                      have H := HA.out
                      clear HA
                      simp only [thresherlaw5_FrameBytes.j2] at H
                      by_cases c16 : x52_9 = true
                      · subst c16
                        have H1 : (some false) = some r := by rw [if_pos rfl] at H; exact H
                        clear H
                        have H := H1
                        clear H1
                        obtain rfl := Option.some.inj H
                        go_wp2
                        go_ret
                        exact ⟨by first | rfl | (simp [errW_none, errW_some] <;> rfl) | (simp [*, errW_none, errW_some] <;> rfl), by repeat (first | (with_reducible first | exact HB.out | apply below_alloc | apply pw_below_drewN | apply below_drew1) | exact HB.out)⟩
                      · replace c16 := Bool.eq_false_iff.mpr c16
                        subst c16
                        have H1 : (if 0 ≤ x4_1 then (if x4_1 < (l0.length : Int) then ((thresherref3_Frame.f kj9 (rdOf ByteArray.empty l0 x4_1)).bind fun t215 => (if x3_1.size + t215.size ≤ 9223372036854775807 then (if t209.size + (rdOf ByteArray.empty l0 x4_1).size ≤ 9223372036854775807 then (if x3_1.size + t215.size + (rdOf ByteArray.empty l0 x4_1).size ≤ 9223372036854775807 then (thresherlaw5_FrameBytes.l1 kj9 l0 (x3_1 ++ t215) x4_1 (([rdOf ByteArray.empty l0 x4_1, t209 ++ (rdOf ByteArray.empty l0 x4_1), (x3_1 ++ t215) ++ (rdOf ByteArray.empty l0 x4_1), x3_1 ++ t215] : List ByteArray)) 0) else (none)) else (none)) else (none))) else (none)) else (none)) = some r := by rw [if_neg (show ¬ (false = true) by decide)] at H; exact H
                        clear H
                        have H := H1
                        clear H1
                        by_cases c17 : 0 ≤ x4_1
                        · rw [if_pos c17] at H
                          have c17b0 : decide (0 ≤ x4_1) = true := decide_eq_true c17
                          clear c17
                          by_cases c18 : x4_1 < (l0.length : Int)
                          · rw [if_pos c18] at H
                            have c18b0 : decide (x4_1 < (l0.length : Int)) = true := decide_eq_true c18
                            clear c18
                            replace H := Option.bind_eq_some_iff.mp H
                            obtain ⟨t215, A190, H⟩ := H
                            replace H : (if x3_1.size + t215.size ≤ 9223372036854775807 then (if t209.size + (rdOf ByteArray.empty l0 x4_1).size ≤ 9223372036854775807 then (if x3_1.size + t215.size + (rdOf ByteArray.empty l0 x4_1).size ≤ 9223372036854775807 then (thresherlaw5_FrameBytes.l1 kj9 l0 (x3_1 ++ t215) x4_1 (([rdOf ByteArray.empty l0 x4_1, t209 ++ (rdOf ByteArray.empty l0 x4_1), (x3_1 ++ t215) ++ (rdOf ByteArray.empty l0 x4_1), x3_1 ++ t215] : List ByteArray)) 0) else (none)) else (none)) else (none)) = some r := H
                            have A19 := Aside0.mk A190
                            clear A190
                            by_cases c20 : x3_1.size + t215.size ≤ 9223372036854775807
                            · rw [if_pos c20] at H
                              have c20b0 := eq_true c20
                              have c20b1 : decide (x3_1.size + t215.size ≤ 9223372036854775807) = true := decide_eq_true c20
                              try have c20b2 : (9223372036854775807 < x3_1.size + t215.size) = False := eq_false (Nat.not_lt.2 c20)
                              by_cases c21 : t209.size + (rdOf ByteArray.empty l0 x4_1).size ≤ 9223372036854775807
                              · rw [if_pos c21] at H
                                have c21b0 := eq_true c21
                                have c21b1 : decide (t209.size + (rdOf ByteArray.empty l0 x4_1).size ≤ 9223372036854775807) = true := decide_eq_true c21
                                try have c21b2 : (9223372036854775807 < t209.size + (rdOf ByteArray.empty l0 x4_1).size) = False := eq_false (Nat.not_lt.2 c21)
                                by_cases c22 : x3_1.size + t215.size + (rdOf ByteArray.empty l0 x4_1).size ≤ 9223372036854775807
                                · rw [if_pos c22] at H
                                  have c22b0 := eq_true c22
                                  have c22b1 : decide (x3_1.size + t215.size + (rdOf ByteArray.empty l0 x4_1).size ≤ 9223372036854775807) = true := decide_eq_true c22
                                  try have c22b2 : (9223372036854775807 < x3_1.size + t215.size + (rdOf ByteArray.empty l0 x4_1).size) = False := eq_false (Nat.not_lt.2 c22)
                                  obtain ⟨y219, hy219⟩ : ∃ y_ : List ByteArray, y_ = (([rdOf ByteArray.empty l0 x4_1, t209 ++ (rdOf ByteArray.empty l0 x4_1), (x3_1 ++ t215) ++ (rdOf ByteArray.empty l0 x4_1), x3_1 ++ t215] : List ByteArray)) := ⟨_, rfl⟩
                                  replace H : (thresherlaw5_FrameBytes.l1 kj9 l0 (x3_1 ++ t215) x4_1 y219 0) = some r := by first | (rw [hy219]; with_reducible exact H) | (have H2_ := (Option.bind_some _ _).symm.trans H; rw [hy219]; with_reducible exact H2_) | (have H2_ := (Option.bind_some _ _).symm.trans H; with_reducible exact H2_) | with_reducible exact H | (rw [hy219]; exact H) | exact H
                                  have Ny219 := Aside0.mk hy219
                                  clear hy219
                                  have H' := Aside0.mk H
                                  clear H
                                  have p214 : 0 ≤ (x4_1 : Int) := of_decide_eq_true (by first | (with_reducible assumption) | assumption)
                                  have q214 : x4_1 < (l0.length : Int) := of_decide_eq_true (by first | (with_reducible assumption) | assumption)
                                  obtain ⟨ad214, e214, hx214_0⟩ := Kd.at_string HR0.out x4_1 p214 q214
                                  obtain rfl : ad208 = ad214 := (by injection e214)
                                  replace hx214_0 := (HB.out.cell (World.block_lt_of_cell? w _ hx214_0)).trans hx214_0
                                  replace p214 := eq_true p214
                                  replace q214 := eq_true q214
                                  try go_wp2_with (first | ((with_reducible refine gate_callee (f := 18) rfl ?_); refine goesL_ (some 58) rfl rfl Try.func18 (by kernel_rfl) rfl #[.string (rdOf ByteArray.empty l0 x4_1)] rfl (by (try simp only [List.map_toArray, List.map_cons, List.map_nil]); first | done | rfl | (simp only [List.length_drop, List.length_take]; rfl)) ?_; (with_reducible refine (thresherref3_Frame.calls kj9 (rdOf ByteArray.empty l0 x4_1) t215 _ A19.out).mono ?_); rintro e w23 ⟨rfl, hb⟩; refine ⟨_, rfl, ?_⟩; have n0_ := Aside0.mk (below_step (by repeat (first | (with_reducible first | exact HB.out | apply below_alloc | apply pw_below_drewN | apply below_drew1) | exact HB.out)) hb); clear HB; have HB := n0_; clear n0_; (try clear hb); (try clear hb2); (try clear hk); (try clear hi)))
                                  have n0_ := Aside0.mk (below_drew1 HB.out)
                                  clear HB
                                  have HB := n0_
                                  clear n0_
                                  have p216 : 0 ≤ (x4_1 : Int) := of_decide_eq_true (by first | (with_reducible assumption) | assumption)
                                  have q216 : x4_1 < (l0.length : Int) := of_decide_eq_true (by first | (with_reducible assumption) | assumption)
                                  obtain ⟨ad216, e216, hx216_0⟩ := Kd.at_string HR0.out x4_1 p216 q216
                                  have hw216_0 := hx216_0
                                  obtain rfl : ad208 = ad216 := (by injection e216)
                                  replace hx216_0 := (HB.out.cell (World.block_lt_of_cell? w _ hx216_0)).trans hx216_0
                                  replace p216 := eq_true p216
                                  replace q216 := eq_true q216
                                  have p217 : 0 ≤ (x4_1 : Int) := of_decide_eq_true (by first | (with_reducible assumption) | assumption)
                                  have q217 : x4_1 < (l0.length : Int) := of_decide_eq_true (by first | (with_reducible assumption) | assumption)
                                  obtain ⟨ad217, e217, hx217_0⟩ := Kd.at_string HR0.out x4_1 p217 q217
                                  have hw217_0 := hx217_0
                                  obtain rfl : ad208 = ad217 := (by injection e217)
                                  replace hx217_0 := (HB.out.cell (World.block_lt_of_cell? w _ hx217_0)).trans hx217_0
                                  replace p217 := eq_true p217
                                  replace q217 := eq_true q217
                                  have p218 : 0 ≤ (x4_1 : Int) := of_decide_eq_true (by first | (with_reducible assumption) | assumption)
                                  have q218 : x4_1 < (l0.length : Int) := of_decide_eq_true (by first | (with_reducible assumption) | assumption)
                                  obtain ⟨ad218, e218, hx218_0⟩ := Kd.at_string HR0.out x4_1 p218 q218
                                  have hw218_0 := hx218_0
                                  obtain rfl : ad208 = ad218 := (by injection e218)
                                  replace hx218_0 := (HB.out.cell (World.block_lt_of_cell? w _ hx218_0)).trans hx218_0
                                  replace p218 := eq_true p218
                                  replace q218 := eq_true q218
                                  refine start_ (n := 19) (S := fun w' => w'.cell? (ad208.add (x4_1).toNat) = some (.string (rdOf ByteArray.empty l0 x4_1)) ∧ w'.cell? (ad208.add (x4_1).toNat) = some (.string (rdOf ByteArray.empty l0 x4_1)) ∧ w'.cell? (ad208.add (x4_1).toNat) = some (.string (rdOf ByteArray.empty l0 x4_1))) (ds := []) #[false, false, false, false, false, false, false, false, false, false, false, false, false, false, false, false, false, false, false] (by kernel_rfl) rfl rfl ⟨((HB.out.cell (World.block_lt_of_cell? w _ hw216_0)).trans hw216_0), ((HB.out.cell (World.block_lt_of_cell? w _ hw217_0)).trans hw217_0), ((HB.out.cell (World.block_lt_of_cell? w _ hw218_0)).trans hw218_0)⟩ (fun hHeld => ?_); refine with_tabW thresherlaw5_FrameBytes.tab11 thresherlaw5_FrameBytes.bits11 (fun HT_ HW_ => ?_)
                                  generalize w23.drew = w24 at HB hx216_0 hx217_0 hx218_0 hHeld ⊢
                                  refine pure_ (i := 0) (N := some 60) (v := ?_) (a' := ?_) #[true, false, false, false, false, false, false, false, false, false, false, false, false, false, false, false, false, false, false] rfl rfl (any_of HT_.out (by kernel_rfl)) (fun _ _ _ h => h) (Or.inl ⟨by rfl, ?_⟩) ?_ ?_
                                  rotate_left
                                  · intro w'
                                    go_simp
                                    with_reducible rfl
                                  rotate_left
                                  · simp only [Act.put, List.setIfInBounds_toArray, List.set_cons_zero, List.set_cons_succ, i64_w, i32_w]
                                    rfl
                                  refine pure_ (i := 1) (N := some 61) (v := ?_) (a' := ?_) #[true, true, false, false, false, false, false, false, false, false, false, false, false, false, false, false, false, false, false] rfl rfl (any_of HT_.out (by kernel_rfl)) (fun _ _ _ h => h) (Or.inl ⟨by rfl, ?_⟩) ?_ ?_
                                  rotate_left
                                  · intro w'
                                    go_simp
                                    with_reducible rfl
                                  rotate_left
                                  · simp only [Act.put, List.setIfInBounds_toArray, List.set_cons_zero, List.set_cons_succ, i64_w, i32_w]
                                    rfl
                                  refine pure_ (i := 2) (N := some 62) (v := ?_) (a' := ?_) #[true, true, true, false, false, false, false, false, false, false, false, false, false, false, false, false, false, false, false] rfl rfl (any_of HT_.out (by kernel_rfl)) (fun _ _ _ h => h) (Or.inl ⟨by rfl, ?_⟩) ?_ ?_
                                  rotate_left
                                  · intro w'
                                    go_simp
                                    with_reducible rfl
                                  rotate_left
                                  · simp only [Act.put, List.setIfInBounds_toArray, List.set_cons_zero, List.set_cons_succ, i64_w, i32_w]
                                    rfl
                                  refine pure_ (i := 4) (N := some 64) (v := ?_) (a' := ?_) #[true, true, true, false, true, false, false, false, false, false, false, false, false, false, false, false, false, false, false] rfl rfl (any_of HT_.out (by kernel_rfl)) (fun _ _ _ h => h) (Or.inl ⟨by rfl, ?_⟩) ?_ ?_
                                  rotate_left
                                  · intro w'
                                    go_simp
                                    with_reducible rfl
                                  rotate_left
                                  · simp only [Act.put, List.setIfInBounds_toArray, List.set_cons_zero, List.set_cons_succ, i64_w, i32_w]
                                    rfl
                                  refine pure_ (i := 5) (N := some 65) (v := ?_) (a' := ?_) #[true, true, true, false, true, true, false, false, false, false, false, false, false, false, false, false, false, false, false] rfl rfl (any_of HT_.out (by kernel_rfl)) (fun _ _ _ h => h) (Or.inl ⟨by rfl, ?_⟩) ?_ ?_
                                  rotate_left
                                  · intro w'
                                    go_simp
                                    with_reducible rfl
                                  rotate_left
                                  · simp only [Act.put, List.setIfInBounds_toArray, List.set_cons_zero, List.set_cons_succ, i64_w, i32_w]
                                    rfl
                                  refine pure_ (i := 6) (N := some 66) (v := ?_) (a' := ?_) #[true, true, true, false, true, true, true, false, false, false, false, false, false, false, false, false, false, false, false] rfl rfl (any_of HT_.out (by kernel_rfl)) (fun _ _ _ h => h) (Or.inl ⟨by rfl, ?_⟩) ?_ ?_
                                  rotate_left
                                  · intro w'
                                    go_simp
                                    with_reducible rfl
                                  rotate_left
                                  · simp only [Act.put, List.setIfInBounds_toArray, List.set_cons_zero, List.set_cons_succ, i64_w, i32_w]
                                    rfl
                                  refine pure_ (i := 7) (N := some 67) (v := ?_) (a' := ?_) #[true, true, true, false, true, true, true, true, false, false, false, false, false, false, false, false, false, false, false] rfl rfl (any_of HT_.out (by kernel_rfl)) (fun _ _ _ h => h) (Or.inl ⟨by rfl, ?_⟩) ?_ ?_
                                  rotate_left
                                  · intro w'
                                    go_simp
                                    with_reducible rfl
                                  rotate_left
                                  · simp only [Act.put, List.setIfInBounds_toArray, List.set_cons_zero, List.set_cons_succ, i64_w, i32_w]
                                    rfl
                                  refine pure_ (i := 10) (N := some 70) (v := ?_) (a' := ?_) #[true, true, true, false, true, true, true, true, false, false, true, false, false, false, false, false, false, false, false] rfl rfl (any_of HT_.out (by kernel_rfl)) (fun _ _ _ h => h) (Or.inl ⟨by rfl, ?_⟩) ?_ ?_
                                  rotate_left
                                  · intro w'
                                    go_simp
                                    with_reducible rfl
                                  rotate_left
                                  · simp only [Act.put, List.setIfInBounds_toArray, List.set_cons_zero, List.set_cons_succ, i64_w, i32_w]
                                    rfl
                                  refine pure_ (i := 11) (N := some 71) (v := ?_) (a' := ?_) #[true, true, true, false, true, true, true, true, false, false, true, true, false, false, false, false, false, false, false] rfl rfl (any_of HT_.out (by kernel_rfl)) (fun _ _ _ h => h) (Or.inl ⟨by rfl, ?_⟩) ?_ ?_
                                  rotate_left
                                  · intro w'
                                    go_simp
                                    with_reducible rfl
                                  rotate_left
                                  · simp only [Act.put, List.setIfInBounds_toArray, List.set_cons_zero, List.set_cons_succ, i64_w, i32_w]
                                    rfl
                                  refine pure_ (i := 12) (N := some 72) (v := ?_) (a' := ?_) #[true, true, true, false, true, true, true, true, false, false, true, true, true, false, false, false, false, false, false] rfl rfl (any_of HT_.out (by kernel_rfl)) (fun _ _ _ h => h) (Or.inl ⟨by rfl, ?_⟩) ?_ ?_
                                  rotate_left
                                  · intro w'
                                    go_simp
                                    with_reducible rfl
                                  rotate_left
                                  · simp only [Act.put, List.setIfInBounds_toArray, List.set_cons_zero, List.set_cons_succ, i64_w, i32_w]
                                    rfl
                                  refine pure_ (i := 13) (N := some 73) (v := ?_) (a' := ?_) #[true, true, true, false, true, true, true, true, false, false, true, true, true, true, false, false, false, false, false] rfl rfl (any_of HT_.out (by kernel_rfl)) (fun _ _ _ h => h) (Or.inl ⟨by rfl, ?_⟩) ?_ ?_
                                  rotate_left
                                  · intro w'
                                    go_simp
                                    with_reducible rfl
                                  rotate_left
                                  · simp only [Act.put, List.setIfInBounds_toArray, List.set_cons_zero, List.set_cons_succ, i64_w, i32_w]
                                    rfl
                                  refine pure_ (i := 16) (N := some 76) (v := ?_) (a' := ?_) #[true, true, true, false, true, true, true, true, false, false, true, true, true, true, false, false, true, false, false] rfl rfl (any_of HT_.out (by kernel_rfl)) (fun _ _ _ h => h) (Or.inl ⟨by rfl, ?_⟩) ?_ ?_
                                  rotate_left
                                  · intro w'
                                    go_simp
                                    with_reducible rfl
                                  rotate_left
                                  · simp only [Act.put, List.setIfInBounds_toArray, List.set_cons_zero, List.set_cons_succ, i64_w, i32_w]
                                    rfl
                                  refine take_ (i := 3) (N := some 63) (v := ?_) (a' := ?_) #[true, true, true, true, true, true, true, true, false, false, true, true, true, true, false, false, true, false, false] rfl rfl (take_ofW HT_.out HW_.out (by kernel_rfl)) (fun _ _ _ h => h) (Or.inl ⟨by rfl, ?_⟩) hHeld ?_ ?_
                                  rotate_left
                                  · rintro w' ⟨s0, s1, s2⟩
                                    go_simp
                                    with_reducible rfl
                                  rotate_left
                                  · simp only [Act.put, List.setIfInBounds_toArray, List.set_cons_zero, List.set_cons_succ, i64_w, i32_w]
                                    rfl
                                  refine take_ (i := 8) (N := some 68) (v := ?_) (a' := ?_) #[true, true, true, true, true, true, true, true, true, false, true, true, true, true, false, false, true, false, false] rfl rfl (take_ofW HT_.out HW_.out (by kernel_rfl)) (fun _ _ _ h => h) (Or.inl ⟨by rfl, ?_⟩) hHeld ?_ ?_
                                  rotate_left
                                  · rintro w' ⟨s0, s1, s2⟩
                                    go_simp
                                    with_reducible rfl
                                  rotate_left
                                  · simp only [Act.put, List.setIfInBounds_toArray, List.set_cons_zero, List.set_cons_succ, i64_w, i32_w]
                                    rfl
                                  refine pure_ (i := 9) (N := some 69) (v := ?_) (a' := ?_) #[true, true, true, true, true, true, true, true, true, true, true, true, true, true, false, false, true, false, false] rfl rfl (any_of HT_.out (by kernel_rfl)) (fun _ _ _ h => h) (Or.inl ⟨by rfl, ?_⟩) ?_ ?_
                                  rotate_left
                                  · intro w'
                                    go_simp
                                    with_reducible rfl
                                  rotate_left
                                  · simp only [Act.put, List.setIfInBounds_toArray, List.set_cons_zero, List.set_cons_succ, i64_w, i32_w]
                                    rfl
                                  refine take_ (i := 14) (N := some 74) (v := ?_) (a' := ?_) #[true, true, true, true, true, true, true, true, true, true, true, true, true, true, true, false, true, false, false] rfl rfl (take_ofW HT_.out HW_.out (by kernel_rfl)) (fun _ _ _ h => h) (Or.inl ⟨by rfl, ?_⟩) hHeld ?_ ?_
                                  rotate_left
                                  · rintro w' ⟨s0, s1, s2⟩
                                    go_simp
                                    with_reducible rfl
                                  rotate_left
                                  · simp only [Act.put, List.setIfInBounds_toArray, List.set_cons_zero, List.set_cons_succ, i64_w, i32_w]
                                    rfl
                                  refine pure_ (i := 15) (N := some 75) (v := ?_) (a' := ?_) #[true, true, true, true, true, true, true, true, true, true, true, true, true, true, true, true, true, false, false] rfl rfl (any_of HT_.out (by kernel_rfl)) (fun _ _ _ h => h) (Or.inl ⟨by rfl, ?_⟩) ?_ ?_
                                  rotate_left
                                  · intro w'
                                    go_simp
                                    with_reducible rfl
                                  rotate_left
                                  · simp only [Act.put, List.setIfInBounds_toArray, List.set_cons_zero, List.set_cons_succ, i64_w, i32_w]
                                    rfl
                                  refine one_ (i := 17) (N := some 77) #[true, true, true, true, true, true, true, true, true, true, true, true, true, true, true, true, true, true, false] rfl rfl (one_of HT_.out (by kernel_rfl)) (by decide) (fun K hK => ?_)
                                  refine Kd.R_lit_step Kd.string _ 9 ?hg (N := 77) ?hd (xs := ([rdOf ByteArray.empty l0 x4_1, t209 ++ (rdOf ByteArray.empty l0 x4_1), (x3_1 ++ t215) ++ (rdOf ByteArray.empty l0 x4_1), x3_1 ++ t215] : List ByteArray)) (inner := [.string (rdOf ByteArray.empty l0 x4_1), .string (t209 ++ (rdOf ByteArray.empty l0 x4_1)), .string ((x3_1 ++ t215) ++ (rdOf ByteArray.empty l0 x4_1)), .string (x3_1 ++ t215)]) (ok := fun _ => True) (okp := fun _ => True) ?hr ?hp (fun _ hk => hk) trivial (Below.refl _ _) (Nat.le_refl _) (by simp) ?_; (case hd => rfl); (case hg => rfl); (case hr => first | (go_simp; done) | (go_simp; rfl)); (case hp => exact (Reps.one (show Kd.M Kd.string _ _ _ (rdOf ByteArray.empty l0 x4_1) [.string (rdOf ByteArray.empty l0 x4_1)] from rfl) (Reps.one (show Kd.M Kd.string _ _ _ (t209 ++ (rdOf ByteArray.empty l0 x4_1)) [.string (t209 ++ (rdOf ByteArray.empty l0 x4_1))] from rfl) (Reps.one (show Kd.M Kd.string _ _ _ ((x3_1 ++ t215) ++ (rdOf ByteArray.empty l0 x4_1)) [.string ((x3_1 ++ t215) ++ (rdOf ByteArray.empty l0 x4_1))] from rfl) (Reps.one (show Kd.M Kd.string _ _ _ (x3_1 ++ t215) [.string (x3_1 ++ t215)] from rfl) (Reps.none _ _))))))
                                  intro v220 w25 ho26 hb hg_ hnew_
                                  clear hg_ hnew_
                                  (first | rw [← Ny219.out] at ho26 | (simp only [Int.reduceToNat] at ho26; rw [← Ny219.out] at ho26))
                                  have n0_ := Aside0.mk (Kd.R_lower ho26 (below_size (by repeat (first | (with_reducible first | exact HB.out | apply below_alloc | apply pw_below_drewN | apply below_drew1) | exact HB.out))))
                                  have n1_ := Aside0.mk (below_step (by repeat (first | (with_reducible first | exact HB.out | apply below_alloc | apply pw_below_drewN | apply below_drew1) | exact HB.out)) hb)
                                  clear HB
                                  have HO221 := n0_
                                  have HB := n1_
                                  clear n0_ n1_
                                  clear hb ho26
                                  refine hK.out _ _ ⟨((HB.out.cell (World.block_lt_of_cell? w _ hw216_0)).trans hw216_0), ((HB.out.cell (World.block_lt_of_cell? w _ hw217_0)).trans hw217_0), ((HB.out.cell (World.block_lt_of_cell? w _ hw218_0)).trans hw218_0)⟩ (fun hHeld => ?_)
                                  clear hK K
                                  refine norm_ (a' := ?_) ?_ ?_
                                  rotate_left
                                  · show Act.put _ (some 77) _ = _
                                    simp only [Act.put, List.setIfInBounds_toArray, List.set_cons_zero, List.set_cons_succ, i64_w, i32_w]
                                    rfl
                                  refine pure_ (i := 18) (N := some 7) (v := ?_) (a' := ?_) #[true, true, true, true, true, true, true, true, true, true, true, true, true, true, true, true, true, true, true] rfl rfl (any_of HT_.out (by kernel_rfl)) (fun _ _ _ h => h) (Or.inl ⟨by rfl, ?_⟩) ?_ ?_
                                  rotate_left
                                  · intro w'
                                    go_simp
                                    with_reducible rfl
                                  rotate_left
                                  · simp only [Act.put, List.setIfInBounds_toArray, List.set_cons_zero, List.set_cons_succ, i64_w, i32_w]
                                    rfl
                                  refine done_ (done_of HT_.out (by kernel_rfl)) ?_
                                  try go_wp2
                                  go_loopg [8] kj9 (fun kq v8 w' => ∃ (x8_4 : Int), v8 = .int .i64 x8_4 ∧ Aside0 (thresherlaw5_FrameBytes.l1 kq l0 (x3_1 ++ t215) x4_1 y219 x8_4 = some r) ∧ Aside0 (kq ≤ kj9) ∧ Aside0 (Kd.R Kd.string 9 w' w.heap.size (fun _ => True) v220 y219) ∧ Aside0 (Below w.heap.size w w'))
                                  case atStart => exact ⟨(0), (by first | rfl | (simp; done) | (simp [*]; done)), H', ⟨Nat.le_refl _⟩, ⟨by (with_reducible repeat (first | apply Kd.R_alloc | apply Kd.R_drewN | apply Kd.R_drew)); exact HO221.out⟩, ⟨by repeat (first | (with_reducible first | exact HB.out | apply below_alloc | apply pw_below_drewN | apply below_drew1) | exact HB.out)⟩⟩
                                  case round =>
                                    clear H'
                                    (try clear c1); (try clear c2); (try clear p2); (try clear q2); (try clear hx2); (try clear c3); (try clear c4); (try clear c5); (try clear c5b0); (try clear c6); (try clear c7); (try clear c7b0); (try clear c8); (try clear c8b0); (try clear c13); (try clear c13b0); (try clear c13b1); (try clear c15); (try clear c16); (try clear c17); (try clear c17b0); (try clear c18); (try clear c18b0); (try clear c20); (try clear c20b0); (try clear c20b1); (try clear c20b2); (try clear p20); (try clear q20); (try clear hx20); (try clear c21); (try clear c21b0); (try clear c21b1); (try clear c21b2); (try clear p21); (try clear q21); (try clear hx21); (try clear c22); (try clear c22b0); (try clear c22b1); (try clear c22b2); (try clear hx208_0); (try clear hx212_0); (try clear hx214_0); (try clear hx216_0); (try clear hx217_0); (try clear hx218_0); (try clear p2); (try clear p208); (try clear p212); (try clear p214); (try clear p216); (try clear p217); (try clear p218); (try clear q2); (try clear q208); (try clear q212); (try clear q214); (try clear q216); (try clear q217); (try clear q218)
                                    obtain ⟨x8_4, rfl, HA, HK4, HO_7, HB⟩ := hrel
                                    cases gk with
                                    | zero => exact absurd HA.out (by simp [thresherlaw5_FrameBytes.l1])
                                    | succ k4 =>
                                      have H := HA.out
                                      clear HA
                                      simp only [thresherlaw5_FrameBytes.l1] at H
                                      by_cases c27 : x8_4 < (y219.length : Int)
                                      · rw [if_pos c27] at H
                                        have c27b0 : decide (x8_4 < (y219.length : Int)) = true := decide_eq_true c27
                                        clear c27
                                        by_cases c28 : 0 ≤ x8_4
                                        · rw [if_pos c28] at H
                                          have c28b0 : decide (0 ≤ x8_4) = true := decide_eq_true c28
                                          clear c28
                                          replace H := Option.bind_eq_some_iff.mp H
                                          obtain ⟨⟨t223, t224, t225⟩, A290, H⟩ := H
                                          replace H : ((thresherref3_TakeFrame.f k4 (rdOf ByteArray.empty y219 x8_4)).bind fun bt227 => ((frame_Scan.f k4 (rdOf ByteArray.empty y219 x8_4)).bind fun bt231 => ((thresherref3_Scan.f k4 (rdOf ByteArray.empty y219 x8_4)).bind fun bt236 => (if t223.toList = bt227.1.toList then (if t224 = bt227.2.1 then ((thresherlaw5_num.f t225).bind fun t240 => (if t240 = bt227.2.2 then ((thresherref0_EqStrings.f k4 bt231.1 bt236.1).bind fun t241 => (if t241 = true then (if bt231.2 = bt236.2 then (thresherlaw5_FrameBytes.l1 k4 l0 (x3_1 ++ t215) x4_1 y219 (wrap64 (x8_4 + 1))) else (some false)) else (some false))) else (some false))) else (some false)) else (some false))))) = some r := H
                                          have A29 := Aside0.mk A290
                                          clear A290
                                          replace H := Option.bind_eq_some_iff.mp H
                                          obtain ⟨⟨t227, t228, t229⟩, A300, H⟩ := H
                                          replace H : ((frame_Scan.f k4 (rdOf ByteArray.empty y219 x8_4)).bind fun bt231 => ((thresherref3_Scan.f k4 (rdOf ByteArray.empty y219 x8_4)).bind fun bt236 => (if t223.toList = t227.toList then (if t224 = t228 then ((thresherlaw5_num.f t225).bind fun t240 => (if t240 = t229 then ((thresherref0_EqStrings.f k4 bt231.1 bt236.1).bind fun t241 => (if t241 = true then (if bt231.2 = bt236.2 then (thresherlaw5_FrameBytes.l1 k4 l0 (x3_1 ++ t215) x4_1 y219 (wrap64 (x8_4 + 1))) else (some false)) else (some false))) else (some false))) else (some false)) else (some false)))) = some r := H
                                          have A30 := Aside0.mk A300
                                          clear A300
                                          replace H := Option.bind_eq_some_iff.mp H
                                          obtain ⟨⟨t231, t232⟩, A310, H⟩ := H
                                          replace H : ((thresherref3_Scan.f k4 (rdOf ByteArray.empty y219 x8_4)).bind fun bt236 => (if t223.toList = t227.toList then (if t224 = t228 then ((thresherlaw5_num.f t225).bind fun t240 => (if t240 = t229 then ((thresherref0_EqStrings.f k4 t231 bt236.1).bind fun t241 => (if t241 = true then (if t232 = bt236.2 then (thresherlaw5_FrameBytes.l1 k4 l0 (x3_1 ++ t215) x4_1 y219 (wrap64 (x8_4 + 1))) else (some false)) else (some false))) else (some false))) else (some false)) else (some false))) = some r := H
                                          have A31 := Aside0.mk A310
                                          clear A310
                                          replace H := Option.bind_eq_some_iff.mp H
                                          obtain ⟨⟨t236, t237⟩, A320, H⟩ := H
                                          replace H : (if t223.toList = t227.toList then (if t224 = t228 then ((thresherlaw5_num.f t225).bind fun t240 => (if t240 = t229 then ((thresherref0_EqStrings.f k4 t231 t236).bind fun t241 => (if t241 = true then (if t232 = t237 then (thresherlaw5_FrameBytes.l1 k4 l0 (x3_1 ++ t215) x4_1 y219 (wrap64 (x8_4 + 1))) else (some false)) else (some false))) else (some false))) else (some false)) else (some false)) = some r := H
                                          have A32 := Aside0.mk A320
                                          clear A320
                                          by_cases c33 : t223.toList = t227.toList
                                          · rw [if_pos c33] at H
                                            have c33b0 : (t223.toList == t227.toList) = true := beq_iff_eq.mpr c33
                                            have c33b1 : (t223.toList != t227.toList) = false := bne_eq_false_iff_eq.mpr c33
                                            clear c33
                                            by_cases c34 : t224 = t228
                                            · rw [if_pos c34] at H
                                              have c34b0 : (t224 == t228) = true := beq_iff_eq.mpr c34
                                              have c34b1 : (t224 != t228) = false := bne_eq_false_iff_eq.mpr c34
                                              clear c34
                                              replace H := Option.bind_eq_some_iff.mp H
                                              obtain ⟨t240, A350, H⟩ := H
                                              replace H : (if t240 = t229 then ((thresherref0_EqStrings.f k4 t231 t236).bind fun t241 => (if t241 = true then (if t232 = t237 then (thresherlaw5_FrameBytes.l1 k4 l0 (x3_1 ++ t215) x4_1 y219 (wrap64 (x8_4 + 1))) else (some false)) else (some false))) else (some false)) = some r := H
                                              have A35 := Aside0.mk A350
                                              clear A350
                                              by_cases c36 : t240 = t229
                                              · rw [if_pos c36] at H
                                                have c36b0 : (t240 == t229) = true := beq_iff_eq.mpr c36
                                                have c36b1 : (t240 != t229) = false := bne_eq_false_iff_eq.mpr c36
                                                clear c36
                                                replace H := Option.bind_eq_some_iff.mp H
                                                obtain ⟨t241, A370, H⟩ := H
                                                replace H : (if t241 = true then (if t232 = t237 then (thresherlaw5_FrameBytes.l1 k4 l0 (x3_1 ++ t215) x4_1 y219 (wrap64 (x8_4 + 1))) else (some false)) else (some false)) = some r := H
                                                have A37 := Aside0.mk A370
                                                clear A370
                                                by_cases c38 : t241 = true
                                                · subst c38
                                                  have H1 : (if t232 = t237 then (thresherlaw5_FrameBytes.l1 k4 l0 (x3_1 ++ t215) x4_1 y219 (wrap64 (x8_4 + 1))) else (some false)) = some r := by rw [if_pos rfl] at H; exact H
                                                  clear H
                                                  have H := H1
                                                  clear H1
                                                  by_cases c39 : t232 = t237
                                                  · rw [if_pos c39] at H
                                                    have c39b0 : (t232 == t237) = true := beq_iff_eq.mpr c39
                                                    have c39b1 : (t232 != t237) = false := bne_eq_false_iff_eq.mpr c39
                                                    clear c39
                                                    have H' := Aside0.mk H
                                                    clear H
                                                    obtain ⟨Ao40, co40, eo40⟩ := Kd.R_slice HO_7.out
                                                    subst eo40
                                                    have p222 : 0 ≤ (x8_4 : Int) := of_decide_eq_true (by first | (with_reducible assumption) | assumption)
                                                    have q222 : x8_4 < (y219.length : Int) := of_decide_eq_true (by first | (with_reducible assumption) | assumption)
                                                    obtain ⟨ad222, e222, hx222_0⟩ := Kd.at_string (Kd.R_reads' HO_7.out).2.2 x8_4 p222 q222
                                                    cases e222
                                                    replace p222 := eq_true p222
                                                    replace q222 := eq_true q222
                                                    go_wp2_with (first | ((with_reducible refine gate_callee (f := 19) rfl ?_); refine goesL_ (some 89) rfl rfl Try.func19 (by kernel_rfl) rfl #[.string (rdOf ByteArray.empty y219 x8_4)] rfl (by (try simp only [List.map_toArray, List.map_cons, List.map_nil]); first | done | rfl | (simp only [List.length_drop, List.length_take]; rfl)) ?_; (with_reducible refine (frame_Take.calls k4 (rdOf ByteArray.empty y219 x8_4) t223 t224 t225 _ A29.out).mono ?_); rintro e w' ⟨rfl, ⟨nd, rfl⟩⟩; refine ⟨_, rfl, ?_⟩; have p226 : 0 ≤ (x8_4 : Int) := of_decide_eq_true (by first | (with_reducible assumption) | assumption); have q226 : x8_4 < (y219.length : Int) := of_decide_eq_true (by first | (with_reducible assumption) | assumption); obtain ⟨ad226, e226, hx226_0⟩ := Kd.at_string (Kd.R_reads' HO_7.out).2.2 x8_4 p226 q226; obtain rfl : ad222 = ad226 := (by injection e226); replace p226 := eq_true p226; replace q226 := eq_true q226) | ((with_reducible refine gate_callee (f := 20) rfl ?_); refine goesL_ (some 98) rfl rfl Try.func20 (by kernel_rfl) rfl #[.string (rdOf ByteArray.empty y219 x8_4)] rfl (by (try simp only [List.map_toArray, List.map_cons, List.map_nil]); first | done | rfl | (simp only [List.length_drop, List.length_take]; rfl)) ?_; (with_reducible refine (thresherref3_TakeFrame.calls k4 (rdOf ByteArray.empty y219 x8_4) t227 t228 t229 _ A30.out).mono ?_); rintro e w' ⟨rfl, ⟨nd, rfl⟩⟩; refine ⟨_, rfl, ?_⟩; have p230 : 0 ≤ (x8_4 : Int) := of_decide_eq_true (by first | (with_reducible assumption) | assumption); have q230 : x8_4 < (y219.length : Int) := of_decide_eq_true (by first | (with_reducible assumption) | assumption); obtain ⟨ad230, e230, hx230_0⟩ := Kd.at_string (Kd.R_reads' HO_7.out).2.2 x8_4 p230 q230; obtain rfl : ad222 = ad230 := (by injection e230); replace p230 := eq_true p230; replace q230 := eq_true q230) | ((with_reducible refine gate_callee (f := 21) rfl ?_); refine goesL_ (some 107) rfl rfl Try.func21 (by kernel_rfl) rfl #[.string (rdOf ByteArray.empty y219 x8_4)] rfl (by (try simp only [List.map_toArray, List.map_cons, List.map_nil]); first | done | rfl | (simp only [List.length_drop, List.length_take]; rfl)) ?_; (with_reducible refine (frame_Scan.calls k4 (rdOf ByteArray.empty y219 x8_4) t231 t232 _ A31.out).mono ?_); rintro e w41 ⟨v233, rfl, ho0, hb⟩; refine ⟨_, rfl, ?_⟩; have n0_ := Aside0.mk (Kd.R_elder' (by (with_reducible repeat (first | apply Kd.R_alloc | apply Kd.R_drewN | apply Kd.R_drew)); exact HO_7.out) (Kd.R_base ho0) hb); have n1_ := Aside0.mk (Kd.R_lower (Kd.R_new' ho0 (Kd.R_lt (by (with_reducible repeat (first | apply Kd.R_alloc | apply Kd.R_drewN | apply Kd.R_drew)); exact HO_7.out))) (below_size (by repeat (first | (with_reducible first | exact HB.out | apply below_alloc | apply pw_below_drewN | apply below_drew1) | exact HB.out)))); have n2_ := Aside0.mk (below_step (by repeat (first | (with_reducible first | exact HB.out | apply below_alloc | apply pw_below_drewN | apply below_drew1) | exact HB.out)) hb); clear HO_7; clear HB; have HO_7 := n0_; have HO234 := n1_; have HB := n2_; clear n0_ n1_ n2_; (try clear hb); (try clear hb2); (try clear hk); (try clear hi); (try clear ho0); have p235 : 0 ≤ (x8_4 : Int) := of_decide_eq_true (by first | (with_reducible assumption) | assumption); have q235 : x8_4 < (y219.length : Int) := of_decide_eq_true (by first | (with_reducible assumption) | assumption); obtain ⟨ad235, e235, hx235_0⟩ := Kd.at_string (Kd.R_reads' HO_7.out).2.2 x8_4 p235 q235; obtain rfl : ad222 = ad235 := (by injection e235); replace p235 := eq_true p235; replace q235 := eq_true q235) | ((with_reducible refine gate_callee (f := 22) rfl ?_); refine goesL_ (some 115) rfl rfl Try.func22 (by kernel_rfl) rfl #[.string (rdOf ByteArray.empty y219 x8_4)] rfl (by (try simp only [List.map_toArray, List.map_cons, List.map_nil]); first | done | rfl | (simp only [List.length_drop, List.length_take]; rfl)) ?_; (with_reducible refine (thresherref3_Scan.calls k4 (rdOf ByteArray.empty y219 x8_4) t236 t237 _ A32.out).mono ?_); rintro e w42 ⟨v238, rfl, ho0, hb⟩; refine ⟨_, rfl, ?_⟩; have n0_ := Aside0.mk (Kd.R_elder' (by (with_reducible repeat (first | apply Kd.R_alloc | apply Kd.R_drewN | apply Kd.R_drew)); exact HO_7.out) (Kd.R_base ho0) hb); have n1_ := Aside0.mk (Kd.R_elder' (by (with_reducible repeat (first | apply Kd.R_alloc | apply Kd.R_drewN | apply Kd.R_drew)); exact HO234.out) (Kd.R_base ho0) hb); have n2_ := Aside0.mk (Kd.R_lower (Kd.R_new' (Kd.R_new' ho0 (Kd.R_lt (by (with_reducible repeat (first | apply Kd.R_alloc | apply Kd.R_drewN | apply Kd.R_drew)); exact HO_7.out))) (Kd.R_lt (by (with_reducible repeat (first | apply Kd.R_alloc | apply Kd.R_drewN | apply Kd.R_drew)); exact HO234.out))) (below_size (by repeat (first | (with_reducible first | exact HB.out | apply below_alloc | apply pw_below_drewN | apply below_drew1) | exact HB.out)))); have n3_ := Aside0.mk (below_step (by repeat (first | (with_reducible first | exact HB.out | apply below_alloc | apply pw_below_drewN | apply below_drew1) | exact HB.out)) hb); clear HO_7; clear HO234; clear HB; have HO_7 := n0_; have HO234 := n1_; have HO239 := n2_; have HB := n3_; clear n0_ n1_ n2_ n3_; (try clear hb); (try clear hb2); (try clear hk); (try clear hi); (try clear ho0)) | (go_at_call 17; (with_reducible refine (thresherlaw5_num.calls t225 t240 _ A35.out).mono ?_); rintro e w' ⟨rfl, ⟨nd, rfl⟩⟩; obtain ⟨Ao43, co43, eo43⟩ := Kd.R_slice HO234.out; subst eo43; obtain ⟨Ao44, co44, eo44⟩ := Kd.R_slice HO239.out; subst eo44) | (go_at_call 23; (with_reducible refine (thresherref0_EqStrings.calls k4 _ _ t231 _ _ t236 true _ ?side1 ?side2 ?side3 ?side4 A37.out).mono ?_); (case side1 => repeat (first | exact (Kd.R_reads' HO234.out).2.2 | (with_reducible refine Kd.C_alloc ?_ _) | (with_reducible refine Kd.C_drewN ?_ _) | (with_reducible refine Kd.C_drew ?_))); (case side2 => exact (Kd.R_reads' HO234.out).2.1); (case side3 => repeat (first | exact (Kd.R_reads' HO239.out).2.2 | (with_reducible refine Kd.C_alloc ?_ _) | (with_reducible refine Kd.C_drewN ?_ _) | (with_reducible refine Kd.C_drew ?_))); (case side4 => exact (Kd.R_reads' HO239.out).2.1); rintro e w' ⟨rfl, ⟨nd, rfl⟩⟩))
                                                    go_roundg k4
                                                    case measure => have := HK1.out; have := HJ3.out; have := HJ9.out; have := HK4.out; omega
                                                    case rel => exact ⟨(wrap64 (x8_4 + 1)), (by first | rfl | (simp; done) | (simp [*]; done)), H', ⟨by have := HK1.out; have := HJ3.out; have := HJ9.out; have := HK4.out; omega⟩, ⟨by (with_reducible repeat (first | apply Kd.R_alloc | apply Kd.R_drewN | apply Kd.R_drew)); exact Kd.R_mono HO_7.out (fun _ hk => trivial)⟩, ⟨by repeat (first | (with_reducible first | exact HB.out | apply below_alloc | apply pw_below_drewN | apply below_drew1) | exact HB.out)⟩⟩
                                                  · rw [if_neg c39] at H
                                                    have c39b0 : (t232 == t237) = false := beq_eq_false_iff_ne.mpr c39
                                                    have c39b1 : (t232 != t237) = true := bne_iff_ne.mpr c39
                                                    obtain rfl := Option.some.inj H
                                                    obtain ⟨Ao45, co45, eo45⟩ := Kd.R_slice HO_7.out
                                                    subst eo45
                                                    have p222 : 0 ≤ (x8_4 : Int) := of_decide_eq_true (by first | (with_reducible assumption) | assumption)
                                                    have q222 : x8_4 < (y219.length : Int) := of_decide_eq_true (by first | (with_reducible assumption) | assumption)
                                                    obtain ⟨ad222, e222, hx222_0⟩ := Kd.at_string (Kd.R_reads' HO_7.out).2.2 x8_4 p222 q222
                                                    cases e222
                                                    replace p222 := eq_true p222
                                                    replace q222 := eq_true q222
                                                    go_wp2_with (first | ((with_reducible refine gate_callee (f := 19) rfl ?_); refine goesL_ (some 89) rfl rfl Try.func19 (by kernel_rfl) rfl #[.string (rdOf ByteArray.empty y219 x8_4)] rfl (by (try simp only [List.map_toArray, List.map_cons, List.map_nil]); first | done | rfl | (simp only [List.length_drop, List.length_take]; rfl)) ?_; (with_reducible refine (frame_Take.calls k4 (rdOf ByteArray.empty y219 x8_4) t223 t224 t225 _ A29.out).mono ?_); rintro e w' ⟨rfl, ⟨nd, rfl⟩⟩; refine ⟨_, rfl, ?_⟩; have p226 : 0 ≤ (x8_4 : Int) := of_decide_eq_true (by first | (with_reducible assumption) | assumption); have q226 : x8_4 < (y219.length : Int) := of_decide_eq_true (by first | (with_reducible assumption) | assumption); obtain ⟨ad226, e226, hx226_0⟩ := Kd.at_string (Kd.R_reads' HO_7.out).2.2 x8_4 p226 q226; obtain rfl : ad222 = ad226 := (by injection e226); replace p226 := eq_true p226; replace q226 := eq_true q226) | ((with_reducible refine gate_callee (f := 20) rfl ?_); refine goesL_ (some 98) rfl rfl Try.func20 (by kernel_rfl) rfl #[.string (rdOf ByteArray.empty y219 x8_4)] rfl (by (try simp only [List.map_toArray, List.map_cons, List.map_nil]); first | done | rfl | (simp only [List.length_drop, List.length_take]; rfl)) ?_; (with_reducible refine (thresherref3_TakeFrame.calls k4 (rdOf ByteArray.empty y219 x8_4) t227 t228 t229 _ A30.out).mono ?_); rintro e w' ⟨rfl, ⟨nd, rfl⟩⟩; refine ⟨_, rfl, ?_⟩; have p230 : 0 ≤ (x8_4 : Int) := of_decide_eq_true (by first | (with_reducible assumption) | assumption); have q230 : x8_4 < (y219.length : Int) := of_decide_eq_true (by first | (with_reducible assumption) | assumption); obtain ⟨ad230, e230, hx230_0⟩ := Kd.at_string (Kd.R_reads' HO_7.out).2.2 x8_4 p230 q230; obtain rfl : ad222 = ad230 := (by injection e230); replace p230 := eq_true p230; replace q230 := eq_true q230) | ((with_reducible refine gate_callee (f := 21) rfl ?_); refine goesL_ (some 107) rfl rfl Try.func21 (by kernel_rfl) rfl #[.string (rdOf ByteArray.empty y219 x8_4)] rfl (by (try simp only [List.map_toArray, List.map_cons, List.map_nil]); first | done | rfl | (simp only [List.length_drop, List.length_take]; rfl)) ?_; (with_reducible refine (frame_Scan.calls k4 (rdOf ByteArray.empty y219 x8_4) t231 t232 _ A31.out).mono ?_); rintro e w46 ⟨v233, rfl, ho0, hb⟩; refine ⟨_, rfl, ?_⟩; have n0_ := Aside0.mk (Kd.R_elder' (by (with_reducible repeat (first | apply Kd.R_alloc | apply Kd.R_drewN | apply Kd.R_drew)); exact HO_7.out) (Kd.R_base ho0) hb); have n1_ := Aside0.mk (Kd.R_lower (Kd.R_new' ho0 (Kd.R_lt (by (with_reducible repeat (first | apply Kd.R_alloc | apply Kd.R_drewN | apply Kd.R_drew)); exact HO_7.out))) (below_size (by repeat (first | (with_reducible first | exact HB.out | apply below_alloc | apply pw_below_drewN | apply below_drew1) | exact HB.out)))); have n2_ := Aside0.mk (below_step (by repeat (first | (with_reducible first | exact HB.out | apply below_alloc | apply pw_below_drewN | apply below_drew1) | exact HB.out)) hb); clear HO_7; clear HB; have HO_7 := n0_; have HO234 := n1_; have HB := n2_; clear n0_ n1_ n2_; (try clear hb); (try clear hb2); (try clear hk); (try clear hi); (try clear ho0); have p235 : 0 ≤ (x8_4 : Int) := of_decide_eq_true (by first | (with_reducible assumption) | assumption); have q235 : x8_4 < (y219.length : Int) := of_decide_eq_true (by first | (with_reducible assumption) | assumption); obtain ⟨ad235, e235, hx235_0⟩ := Kd.at_string (Kd.R_reads' HO_7.out).2.2 x8_4 p235 q235; obtain rfl : ad222 = ad235 := (by injection e235); replace p235 := eq_true p235; replace q235 := eq_true q235) | ((with_reducible refine gate_callee (f := 22) rfl ?_); refine goesL_ (some 115) rfl rfl Try.func22 (by kernel_rfl) rfl #[.string (rdOf ByteArray.empty y219 x8_4)] rfl (by (try simp only [List.map_toArray, List.map_cons, List.map_nil]); first | done | rfl | (simp only [List.length_drop, List.length_take]; rfl)) ?_; (with_reducible refine (thresherref3_Scan.calls k4 (rdOf ByteArray.empty y219 x8_4) t236 t237 _ A32.out).mono ?_); rintro e w47 ⟨v238, rfl, ho0, hb⟩; refine ⟨_, rfl, ?_⟩; have n0_ := Aside0.mk (Kd.R_elder' (by (with_reducible repeat (first | apply Kd.R_alloc | apply Kd.R_drewN | apply Kd.R_drew)); exact HO_7.out) (Kd.R_base ho0) hb); have n1_ := Aside0.mk (Kd.R_elder' (by (with_reducible repeat (first | apply Kd.R_alloc | apply Kd.R_drewN | apply Kd.R_drew)); exact HO234.out) (Kd.R_base ho0) hb); have n2_ := Aside0.mk (Kd.R_lower (Kd.R_new' (Kd.R_new' ho0 (Kd.R_lt (by (with_reducible repeat (first | apply Kd.R_alloc | apply Kd.R_drewN | apply Kd.R_drew)); exact HO_7.out))) (Kd.R_lt (by (with_reducible repeat (first | apply Kd.R_alloc | apply Kd.R_drewN | apply Kd.R_drew)); exact HO234.out))) (below_size (by repeat (first | (with_reducible first | exact HB.out | apply below_alloc | apply pw_below_drewN | apply below_drew1) | exact HB.out)))); have n3_ := Aside0.mk (below_step (by repeat (first | (with_reducible first | exact HB.out | apply below_alloc | apply pw_below_drewN | apply below_drew1) | exact HB.out)) hb); clear HO_7; clear HO234; clear HB; have HO_7 := n0_; have HO234 := n1_; have HO239 := n2_; have HB := n3_; clear n0_ n1_ n2_ n3_; (try clear hb); (try clear hb2); (try clear hk); (try clear hi); (try clear ho0)) | (go_at_call 17; (with_reducible refine (thresherlaw5_num.calls t225 t240 _ A35.out).mono ?_); rintro e w' ⟨rfl, ⟨nd, rfl⟩⟩; obtain ⟨Ao48, co48, eo48⟩ := Kd.R_slice HO234.out; subst eo48; obtain ⟨Ao49, co49, eo49⟩ := Kd.R_slice HO239.out; subst eo49) | (go_at_call 23; (with_reducible refine (thresherref0_EqStrings.calls k4 _ _ t231 _ _ t236 true _ ?side1 ?side2 ?side3 ?side4 A37.out).mono ?_); (case side1 => repeat (first | exact (Kd.R_reads' HO234.out).2.2 | (with_reducible refine Kd.C_alloc ?_ _) | (with_reducible refine Kd.C_drewN ?_ _) | (with_reducible refine Kd.C_drew ?_))); (case side2 => exact (Kd.R_reads' HO234.out).2.1); (case side3 => repeat (first | exact (Kd.R_reads' HO239.out).2.2 | (with_reducible refine Kd.C_alloc ?_ _) | (with_reducible refine Kd.C_drewN ?_ _) | (with_reducible refine Kd.C_drew ?_))); (case side4 => exact (Kd.R_reads' HO239.out).2.1); rintro e w' ⟨rfl, ⟨nd, rfl⟩⟩))
                                                    go_ret
                                                    exact ⟨by first | rfl | (simp [errW_none, errW_some] <;> rfl) | (simp [*, errW_none, errW_some] <;> rfl), by repeat (first | (with_reducible first | exact HB.out | apply below_alloc | apply pw_below_drewN | apply below_drew1) | exact HB.out)⟩
                                                · replace c38 := Bool.eq_false_iff.mpr c38
                                                  subst c38
                                                  have H1 : (some false) = some r := by rw [if_neg (show ¬ (false = true) by decide)] at H; exact H
                                                  clear H
                                                  have H := H1
                                                  clear H1
                                                  obtain rfl := Option.some.inj H
                                                  obtain ⟨Ao50, co50, eo50⟩ := Kd.R_slice HO_7.out
                                                  subst eo50
                                                  have p222 : 0 ≤ (x8_4 : Int) := of_decide_eq_true (by first | (with_reducible assumption) | assumption)
                                                  have q222 : x8_4 < (y219.length : Int) := of_decide_eq_true (by first | (with_reducible assumption) | assumption)
                                                  obtain ⟨ad222, e222, hx222_0⟩ := Kd.at_string (Kd.R_reads' HO_7.out).2.2 x8_4 p222 q222
                                                  cases e222
                                                  replace p222 := eq_true p222
                                                  replace q222 := eq_true q222
                                                  go_wp2_with (first | ((with_reducible refine gate_callee (f := 19) rfl ?_); refine goesL_ (some 89) rfl rfl Try.func19 (by kernel_rfl) rfl #[.string (rdOf ByteArray.empty y219 x8_4)] rfl (by (try simp only [List.map_toArray, List.map_cons, List.map_nil]); first | done | rfl | (simp only [List.length_drop, List.length_take]; rfl)) ?_; (with_reducible refine (frame_Take.calls k4 (rdOf ByteArray.empty y219 x8_4) t223 t224 t225 _ A29.out).mono ?_); rintro e w' ⟨rfl, ⟨nd, rfl⟩⟩; refine ⟨_, rfl, ?_⟩; have p226 : 0 ≤ (x8_4 : Int) := of_decide_eq_true (by first | (with_reducible assumption) | assumption); have q226 : x8_4 < (y219.length : Int) := of_decide_eq_true (by first | (with_reducible assumption) | assumption); obtain ⟨ad226, e226, hx226_0⟩ := Kd.at_string (Kd.R_reads' HO_7.out).2.2 x8_4 p226 q226; obtain rfl : ad222 = ad226 := (by injection e226); replace p226 := eq_true p226; replace q226 := eq_true q226) | ((with_reducible refine gate_callee (f := 20) rfl ?_); refine goesL_ (some 98) rfl rfl Try.func20 (by kernel_rfl) rfl #[.string (rdOf ByteArray.empty y219 x8_4)] rfl (by (try simp only [List.map_toArray, List.map_cons, List.map_nil]); first | done | rfl | (simp only [List.length_drop, List.length_take]; rfl)) ?_; (with_reducible refine (thresherref3_TakeFrame.calls k4 (rdOf ByteArray.empty y219 x8_4) t227 t228 t229 _ A30.out).mono ?_); rintro e w' ⟨rfl, ⟨nd, rfl⟩⟩; refine ⟨_, rfl, ?_⟩; have p230 : 0 ≤ (x8_4 : Int) := of_decide_eq_true (by first | (with_reducible assumption) | assumption); have q230 : x8_4 < (y219.length : Int) := of_decide_eq_true (by first | (with_reducible assumption) | assumption); obtain ⟨ad230, e230, hx230_0⟩ := Kd.at_string (Kd.R_reads' HO_7.out).2.2 x8_4 p230 q230; obtain rfl : ad222 = ad230 := (by injection e230); replace p230 := eq_true p230; replace q230 := eq_true q230) | ((with_reducible refine gate_callee (f := 21) rfl ?_); refine goesL_ (some 107) rfl rfl Try.func21 (by kernel_rfl) rfl #[.string (rdOf ByteArray.empty y219 x8_4)] rfl (by (try simp only [List.map_toArray, List.map_cons, List.map_nil]); first | done | rfl | (simp only [List.length_drop, List.length_take]; rfl)) ?_; (with_reducible refine (frame_Scan.calls k4 (rdOf ByteArray.empty y219 x8_4) t231 t232 _ A31.out).mono ?_); rintro e w51 ⟨v233, rfl, ho0, hb⟩; refine ⟨_, rfl, ?_⟩; have n0_ := Aside0.mk (Kd.R_elder' (by (with_reducible repeat (first | apply Kd.R_alloc | apply Kd.R_drewN | apply Kd.R_drew)); exact HO_7.out) (Kd.R_base ho0) hb); have n1_ := Aside0.mk (Kd.R_lower (Kd.R_new' ho0 (Kd.R_lt (by (with_reducible repeat (first | apply Kd.R_alloc | apply Kd.R_drewN | apply Kd.R_drew)); exact HO_7.out))) (below_size (by repeat (first | (with_reducible first | exact HB.out | apply below_alloc | apply pw_below_drewN | apply below_drew1) | exact HB.out)))); have n2_ := Aside0.mk (below_step (by repeat (first | (with_reducible first | exact HB.out | apply below_alloc | apply pw_below_drewN | apply below_drew1) | exact HB.out)) hb); clear HO_7; clear HB; have HO_7 := n0_; have HO234 := n1_; have HB := n2_; clear n0_ n1_ n2_; (try clear hb); (try clear hb2); (try clear hk); (try clear hi); (try clear ho0); have p235 : 0 ≤ (x8_4 : Int) := of_decide_eq_true (by first | (with_reducible assumption) | assumption); have q235 : x8_4 < (y219.length : Int) := of_decide_eq_true (by first | (with_reducible assumption) | assumption); obtain ⟨ad235, e235, hx235_0⟩ := Kd.at_string (Kd.R_reads' HO_7.out).2.2 x8_4 p235 q235; obtain rfl : ad222 = ad235 := (by injection e235); replace p235 := eq_true p235; replace q235 := eq_true q235) | ((with_reducible refine gate_callee (f := 22) rfl ?_); refine goesL_ (some 115) rfl rfl Try.func22 (by kernel_rfl) rfl #[.string (rdOf ByteArray.empty y219 x8_4)] rfl (by (try simp only [List.map_toArray, List.map_cons, List.map_nil]); first | done | rfl | (simp only [List.length_drop, List.length_take]; rfl)) ?_; (with_reducible refine (thresherref3_Scan.calls k4 (rdOf ByteArray.empty y219 x8_4) t236 t237 _ A32.out).mono ?_); rintro e w52 ⟨v238, rfl, ho0, hb⟩; refine ⟨_, rfl, ?_⟩; have n0_ := Aside0.mk (Kd.R_elder' (by (with_reducible repeat (first | apply Kd.R_alloc | apply Kd.R_drewN | apply Kd.R_drew)); exact HO_7.out) (Kd.R_base ho0) hb); have n1_ := Aside0.mk (Kd.R_elder' (by (with_reducible repeat (first | apply Kd.R_alloc | apply Kd.R_drewN | apply Kd.R_drew)); exact HO234.out) (Kd.R_base ho0) hb); have n2_ := Aside0.mk (Kd.R_lower (Kd.R_new' (Kd.R_new' ho0 (Kd.R_lt (by (with_reducible repeat (first | apply Kd.R_alloc | apply Kd.R_drewN | apply Kd.R_drew)); exact HO_7.out))) (Kd.R_lt (by (with_reducible repeat (first | apply Kd.R_alloc | apply Kd.R_drewN | apply Kd.R_drew)); exact HO234.out))) (below_size (by repeat (first | (with_reducible first | exact HB.out | apply below_alloc | apply pw_below_drewN | apply below_drew1) | exact HB.out)))); have n3_ := Aside0.mk (below_step (by repeat (first | (with_reducible first | exact HB.out | apply below_alloc | apply pw_below_drewN | apply below_drew1) | exact HB.out)) hb); clear HO_7; clear HO234; clear HB; have HO_7 := n0_; have HO234 := n1_; have HO239 := n2_; have HB := n3_; clear n0_ n1_ n2_ n3_; (try clear hb); (try clear hb2); (try clear hk); (try clear hi); (try clear ho0)) | (go_at_call 17; (with_reducible refine (thresherlaw5_num.calls t225 t240 _ A35.out).mono ?_); rintro e w' ⟨rfl, ⟨nd, rfl⟩⟩; obtain ⟨Ao53, co53, eo53⟩ := Kd.R_slice HO234.out; subst eo53; obtain ⟨Ao54, co54, eo54⟩ := Kd.R_slice HO239.out; subst eo54) | (go_at_call 23; (with_reducible refine (thresherref0_EqStrings.calls k4 _ _ t231 _ _ t236 false _ ?side1 ?side2 ?side3 ?side4 A37.out).mono ?_); (case side1 => repeat (first | exact (Kd.R_reads' HO234.out).2.2 | (with_reducible refine Kd.C_alloc ?_ _) | (with_reducible refine Kd.C_drewN ?_ _) | (with_reducible refine Kd.C_drew ?_))); (case side2 => exact (Kd.R_reads' HO234.out).2.1); (case side3 => repeat (first | exact (Kd.R_reads' HO239.out).2.2 | (with_reducible refine Kd.C_alloc ?_ _) | (with_reducible refine Kd.C_drewN ?_ _) | (with_reducible refine Kd.C_drew ?_))); (case side4 => exact (Kd.R_reads' HO239.out).2.1); rintro e w' ⟨rfl, ⟨nd, rfl⟩⟩))
                                                  go_ret
                                                  exact ⟨by first | rfl | (simp [errW_none, errW_some] <;> rfl) | (simp [*, errW_none, errW_some] <;> rfl), by repeat (first | (with_reducible first | exact HB.out | apply below_alloc | apply pw_below_drewN | apply below_drew1) | exact HB.out)⟩
                                              · rw [if_neg c36] at H
                                                have c36b0 : (t240 == t229) = false := beq_eq_false_iff_ne.mpr c36
                                                have c36b1 : (t240 != t229) = true := bne_iff_ne.mpr c36
                                                obtain rfl := Option.some.inj H
                                                obtain ⟨Ao55, co55, eo55⟩ := Kd.R_slice HO_7.out
                                                subst eo55
                                                have p222 : 0 ≤ (x8_4 : Int) := of_decide_eq_true (by first | (with_reducible assumption) | assumption)
                                                have q222 : x8_4 < (y219.length : Int) := of_decide_eq_true (by first | (with_reducible assumption) | assumption)
                                                obtain ⟨ad222, e222, hx222_0⟩ := Kd.at_string (Kd.R_reads' HO_7.out).2.2 x8_4 p222 q222
                                                cases e222
                                                replace p222 := eq_true p222
                                                replace q222 := eq_true q222
                                                go_wp2_with (first | ((with_reducible refine gate_callee (f := 19) rfl ?_); refine goesL_ (some 89) rfl rfl Try.func19 (by kernel_rfl) rfl #[.string (rdOf ByteArray.empty y219 x8_4)] rfl (by (try simp only [List.map_toArray, List.map_cons, List.map_nil]); first | done | rfl | (simp only [List.length_drop, List.length_take]; rfl)) ?_; (with_reducible refine (frame_Take.calls k4 (rdOf ByteArray.empty y219 x8_4) t223 t224 t225 _ A29.out).mono ?_); rintro e w' ⟨rfl, ⟨nd, rfl⟩⟩; refine ⟨_, rfl, ?_⟩; have p226 : 0 ≤ (x8_4 : Int) := of_decide_eq_true (by first | (with_reducible assumption) | assumption); have q226 : x8_4 < (y219.length : Int) := of_decide_eq_true (by first | (with_reducible assumption) | assumption); obtain ⟨ad226, e226, hx226_0⟩ := Kd.at_string (Kd.R_reads' HO_7.out).2.2 x8_4 p226 q226; obtain rfl : ad222 = ad226 := (by injection e226); replace p226 := eq_true p226; replace q226 := eq_true q226) | ((with_reducible refine gate_callee (f := 20) rfl ?_); refine goesL_ (some 98) rfl rfl Try.func20 (by kernel_rfl) rfl #[.string (rdOf ByteArray.empty y219 x8_4)] rfl (by (try simp only [List.map_toArray, List.map_cons, List.map_nil]); first | done | rfl | (simp only [List.length_drop, List.length_take]; rfl)) ?_; (with_reducible refine (thresherref3_TakeFrame.calls k4 (rdOf ByteArray.empty y219 x8_4) t227 t228 t229 _ A30.out).mono ?_); rintro e w' ⟨rfl, ⟨nd, rfl⟩⟩; refine ⟨_, rfl, ?_⟩; have p230 : 0 ≤ (x8_4 : Int) := of_decide_eq_true (by first | (with_reducible assumption) | assumption); have q230 : x8_4 < (y219.length : Int) := of_decide_eq_true (by first | (with_reducible assumption) | assumption); obtain ⟨ad230, e230, hx230_0⟩ := Kd.at_string (Kd.R_reads' HO_7.out).2.2 x8_4 p230 q230; obtain rfl : ad222 = ad230 := (by injection e230); replace p230 := eq_true p230; replace q230 := eq_true q230) | ((with_reducible refine gate_callee (f := 21) rfl ?_); refine goesL_ (some 107) rfl rfl Try.func21 (by kernel_rfl) rfl #[.string (rdOf ByteArray.empty y219 x8_4)] rfl (by (try simp only [List.map_toArray, List.map_cons, List.map_nil]); first | done | rfl | (simp only [List.length_drop, List.length_take]; rfl)) ?_; (with_reducible refine (frame_Scan.calls k4 (rdOf ByteArray.empty y219 x8_4) t231 t232 _ A31.out).mono ?_); rintro e w56 ⟨v233, rfl, ho0, hb⟩; refine ⟨_, rfl, ?_⟩; have n0_ := Aside0.mk (Kd.R_elder' (by (with_reducible repeat (first | apply Kd.R_alloc | apply Kd.R_drewN | apply Kd.R_drew)); exact HO_7.out) (Kd.R_base ho0) hb); have n1_ := Aside0.mk (Kd.R_lower (Kd.R_new' ho0 (Kd.R_lt (by (with_reducible repeat (first | apply Kd.R_alloc | apply Kd.R_drewN | apply Kd.R_drew)); exact HO_7.out))) (below_size (by repeat (first | (with_reducible first | exact HB.out | apply below_alloc | apply pw_below_drewN | apply below_drew1) | exact HB.out)))); have n2_ := Aside0.mk (below_step (by repeat (first | (with_reducible first | exact HB.out | apply below_alloc | apply pw_below_drewN | apply below_drew1) | exact HB.out)) hb); clear HO_7; clear HB; have HO_7 := n0_; have HO234 := n1_; have HB := n2_; clear n0_ n1_ n2_; (try clear hb); (try clear hb2); (try clear hk); (try clear hi); (try clear ho0); have p235 : 0 ≤ (x8_4 : Int) := of_decide_eq_true (by first | (with_reducible assumption) | assumption); have q235 : x8_4 < (y219.length : Int) := of_decide_eq_true (by first | (with_reducible assumption) | assumption); obtain ⟨ad235, e235, hx235_0⟩ := Kd.at_string (Kd.R_reads' HO_7.out).2.2 x8_4 p235 q235; obtain rfl : ad222 = ad235 := (by injection e235); replace p235 := eq_true p235; replace q235 := eq_true q235) | ((with_reducible refine gate_callee (f := 22) rfl ?_); refine goesL_ (some 115) rfl rfl Try.func22 (by kernel_rfl) rfl #[.string (rdOf ByteArray.empty y219 x8_4)] rfl (by (try simp only [List.map_toArray, List.map_cons, List.map_nil]); first | done | rfl | (simp only [List.length_drop, List.length_take]; rfl)) ?_; (with_reducible refine (thresherref3_Scan.calls k4 (rdOf ByteArray.empty y219 x8_4) t236 t237 _ A32.out).mono ?_); rintro e w57 ⟨v238, rfl, ho0, hb⟩; refine ⟨_, rfl, ?_⟩; have n0_ := Aside0.mk (Kd.R_elder' (by (with_reducible repeat (first | apply Kd.R_alloc | apply Kd.R_drewN | apply Kd.R_drew)); exact HO_7.out) (Kd.R_base ho0) hb); have n1_ := Aside0.mk (Kd.R_elder' (by (with_reducible repeat (first | apply Kd.R_alloc | apply Kd.R_drewN | apply Kd.R_drew)); exact HO234.out) (Kd.R_base ho0) hb); have n2_ := Aside0.mk (Kd.R_lower (Kd.R_new' (Kd.R_new' ho0 (Kd.R_lt (by (with_reducible repeat (first | apply Kd.R_alloc | apply Kd.R_drewN | apply Kd.R_drew)); exact HO_7.out))) (Kd.R_lt (by (with_reducible repeat (first | apply Kd.R_alloc | apply Kd.R_drewN | apply Kd.R_drew)); exact HO234.out))) (below_size (by repeat (first | (with_reducible first | exact HB.out | apply below_alloc | apply pw_below_drewN | apply below_drew1) | exact HB.out)))); have n3_ := Aside0.mk (below_step (by repeat (first | (with_reducible first | exact HB.out | apply below_alloc | apply pw_below_drewN | apply below_drew1) | exact HB.out)) hb); clear HO_7; clear HO234; clear HB; have HO_7 := n0_; have HO234 := n1_; have HO239 := n2_; have HB := n3_; clear n0_ n1_ n2_ n3_; (try clear hb); (try clear hb2); (try clear hk); (try clear hi); (try clear ho0)) | (go_at_call 17; (with_reducible refine (thresherlaw5_num.calls t225 t240 _ A35.out).mono ?_); rintro e w' ⟨rfl, ⟨nd, rfl⟩⟩))
                                                go_ret
                                                exact ⟨by first | rfl | (simp [errW_none, errW_some] <;> rfl) | (simp [*, errW_none, errW_some] <;> rfl), by repeat (first | (with_reducible first | exact HB.out | apply below_alloc | apply pw_below_drewN | apply below_drew1) | exact HB.out)⟩
                                            · rw [if_neg c34] at H
                                              have c34b0 : (t224 == t228) = false := beq_eq_false_iff_ne.mpr c34
                                              have c34b1 : (t224 != t228) = true := bne_iff_ne.mpr c34
                                              obtain rfl := Option.some.inj H
                                              obtain ⟨Ao58, co58, eo58⟩ := Kd.R_slice HO_7.out
                                              subst eo58
                                              have p222 : 0 ≤ (x8_4 : Int) := of_decide_eq_true (by first | (with_reducible assumption) | assumption)
                                              have q222 : x8_4 < (y219.length : Int) := of_decide_eq_true (by first | (with_reducible assumption) | assumption)
                                              obtain ⟨ad222, e222, hx222_0⟩ := Kd.at_string (Kd.R_reads' HO_7.out).2.2 x8_4 p222 q222
                                              cases e222
                                              replace p222 := eq_true p222
                                              replace q222 := eq_true q222
                                              go_wp2_with (first | ((with_reducible refine gate_callee (f := 19) rfl ?_); refine goesL_ (some 89) rfl rfl Try.func19 (by kernel_rfl) rfl #[.string (rdOf ByteArray.empty y219 x8_4)] rfl (by (try simp only [List.map_toArray, List.map_cons, List.map_nil]); first | done | rfl | (simp only [List.length_drop, List.length_take]; rfl)) ?_; (with_reducible refine (frame_Take.calls k4 (rdOf ByteArray.empty y219 x8_4) t223 t224 t225 _ A29.out).mono ?_); rintro e w' ⟨rfl, ⟨nd, rfl⟩⟩; refine ⟨_, rfl, ?_⟩; have p226 : 0 ≤ (x8_4 : Int) := of_decide_eq_true (by first | (with_reducible assumption) | assumption); have q226 : x8_4 < (y219.length : Int) := of_decide_eq_true (by first | (with_reducible assumption) | assumption); obtain ⟨ad226, e226, hx226_0⟩ := Kd.at_string (Kd.R_reads' HO_7.out).2.2 x8_4 p226 q226; obtain rfl : ad222 = ad226 := (by injection e226); replace p226 := eq_true p226; replace q226 := eq_true q226) | ((with_reducible refine gate_callee (f := 20) rfl ?_); refine goesL_ (some 98) rfl rfl Try.func20 (by kernel_rfl) rfl #[.string (rdOf ByteArray.empty y219 x8_4)] rfl (by (try simp only [List.map_toArray, List.map_cons, List.map_nil]); first | done | rfl | (simp only [List.length_drop, List.length_take]; rfl)) ?_; (with_reducible refine (thresherref3_TakeFrame.calls k4 (rdOf ByteArray.empty y219 x8_4) t227 t228 t229 _ A30.out).mono ?_); rintro e w' ⟨rfl, ⟨nd, rfl⟩⟩; refine ⟨_, rfl, ?_⟩; have p230 : 0 ≤ (x8_4 : Int) := of_decide_eq_true (by first | (with_reducible assumption) | assumption); have q230 : x8_4 < (y219.length : Int) := of_decide_eq_true (by first | (with_reducible assumption) | assumption); obtain ⟨ad230, e230, hx230_0⟩ := Kd.at_string (Kd.R_reads' HO_7.out).2.2 x8_4 p230 q230; obtain rfl : ad222 = ad230 := (by injection e230); replace p230 := eq_true p230; replace q230 := eq_true q230) | ((with_reducible refine gate_callee (f := 21) rfl ?_); refine goesL_ (some 107) rfl rfl Try.func21 (by kernel_rfl) rfl #[.string (rdOf ByteArray.empty y219 x8_4)] rfl (by (try simp only [List.map_toArray, List.map_cons, List.map_nil]); first | done | rfl | (simp only [List.length_drop, List.length_take]; rfl)) ?_; (with_reducible refine (frame_Scan.calls k4 (rdOf ByteArray.empty y219 x8_4) t231 t232 _ A31.out).mono ?_); rintro e w59 ⟨v233, rfl, ho0, hb⟩; refine ⟨_, rfl, ?_⟩; have n0_ := Aside0.mk (Kd.R_elder' (by (with_reducible repeat (first | apply Kd.R_alloc | apply Kd.R_drewN | apply Kd.R_drew)); exact HO_7.out) (Kd.R_base ho0) hb); have n1_ := Aside0.mk (Kd.R_lower (Kd.R_new' ho0 (Kd.R_lt (by (with_reducible repeat (first | apply Kd.R_alloc | apply Kd.R_drewN | apply Kd.R_drew)); exact HO_7.out))) (below_size (by repeat (first | (with_reducible first | exact HB.out | apply below_alloc | apply pw_below_drewN | apply below_drew1) | exact HB.out)))); have n2_ := Aside0.mk (below_step (by repeat (first | (with_reducible first | exact HB.out | apply below_alloc | apply pw_below_drewN | apply below_drew1) | exact HB.out)) hb); clear HO_7; clear HB; have HO_7 := n0_; have HO234 := n1_; have HB := n2_; clear n0_ n1_ n2_; (try clear hb); (try clear hb2); (try clear hk); (try clear hi); (try clear ho0); have p235 : 0 ≤ (x8_4 : Int) := of_decide_eq_true (by first | (with_reducible assumption) | assumption); have q235 : x8_4 < (y219.length : Int) := of_decide_eq_true (by first | (with_reducible assumption) | assumption); obtain ⟨ad235, e235, hx235_0⟩ := Kd.at_string (Kd.R_reads' HO_7.out).2.2 x8_4 p235 q235; obtain rfl : ad222 = ad235 := (by injection e235); replace p235 := eq_true p235; replace q235 := eq_true q235) | ((with_reducible refine gate_callee (f := 22) rfl ?_); refine goesL_ (some 115) rfl rfl Try.func22 (by kernel_rfl) rfl #[.string (rdOf ByteArray.empty y219 x8_4)] rfl (by (try simp only [List.map_toArray, List.map_cons, List.map_nil]); first | done | rfl | (simp only [List.length_drop, List.length_take]; rfl)) ?_; (with_reducible refine (thresherref3_Scan.calls k4 (rdOf ByteArray.empty y219 x8_4) t236 t237 _ A32.out).mono ?_); rintro e w60 ⟨v238, rfl, ho0, hb⟩; refine ⟨_, rfl, ?_⟩; have n0_ := Aside0.mk (Kd.R_elder' (by (with_reducible repeat (first | apply Kd.R_alloc | apply Kd.R_drewN | apply Kd.R_drew)); exact HO_7.out) (Kd.R_base ho0) hb); have n1_ := Aside0.mk (Kd.R_elder' (by (with_reducible repeat (first | apply Kd.R_alloc | apply Kd.R_drewN | apply Kd.R_drew)); exact HO234.out) (Kd.R_base ho0) hb); have n2_ := Aside0.mk (Kd.R_lower (Kd.R_new' (Kd.R_new' ho0 (Kd.R_lt (by (with_reducible repeat (first | apply Kd.R_alloc | apply Kd.R_drewN | apply Kd.R_drew)); exact HO_7.out))) (Kd.R_lt (by (with_reducible repeat (first | apply Kd.R_alloc | apply Kd.R_drewN | apply Kd.R_drew)); exact HO234.out))) (below_size (by repeat (first | (with_reducible first | exact HB.out | apply below_alloc | apply pw_below_drewN | apply below_drew1) | exact HB.out)))); have n3_ := Aside0.mk (below_step (by repeat (first | (with_reducible first | exact HB.out | apply below_alloc | apply pw_below_drewN | apply below_drew1) | exact HB.out)) hb); clear HO_7; clear HO234; clear HB; have HO_7 := n0_; have HO234 := n1_; have HO239 := n2_; have HB := n3_; clear n0_ n1_ n2_ n3_; (try clear hb); (try clear hb2); (try clear hk); (try clear hi); (try clear ho0)))
                                              go_ret
                                              exact ⟨by first | rfl | (simp [errW_none, errW_some] <;> rfl) | (simp [*, errW_none, errW_some] <;> rfl), by repeat (first | (with_reducible first | exact HB.out | apply below_alloc | apply pw_below_drewN | apply below_drew1) | exact HB.out)⟩
                                          · rw [if_neg c33] at H
                                            have c33b0 : (t223.toList == t227.toList) = false := beq_eq_false_iff_ne.mpr c33
                                            have c33b1 : (t223.toList != t227.toList) = true := bne_iff_ne.mpr c33
                                            obtain rfl := Option.some.inj H
                                            obtain ⟨Ao61, co61, eo61⟩ := Kd.R_slice HO_7.out
                                            subst eo61
                                            have p222 : 0 ≤ (x8_4 : Int) := of_decide_eq_true (by first | (with_reducible assumption) | assumption)
                                            have q222 : x8_4 < (y219.length : Int) := of_decide_eq_true (by first | (with_reducible assumption) | assumption)
                                            obtain ⟨ad222, e222, hx222_0⟩ := Kd.at_string (Kd.R_reads' HO_7.out).2.2 x8_4 p222 q222
                                            cases e222
                                            replace p222 := eq_true p222
                                            replace q222 := eq_true q222
                                            go_wp2_with (first | ((with_reducible refine gate_callee (f := 19) rfl ?_); refine goesL_ (some 89) rfl rfl Try.func19 (by kernel_rfl) rfl #[.string (rdOf ByteArray.empty y219 x8_4)] rfl (by (try simp only [List.map_toArray, List.map_cons, List.map_nil]); first | done | rfl | (simp only [List.length_drop, List.length_take]; rfl)) ?_; (with_reducible refine (frame_Take.calls k4 (rdOf ByteArray.empty y219 x8_4) t223 t224 t225 _ A29.out).mono ?_); rintro e w' ⟨rfl, ⟨nd, rfl⟩⟩; refine ⟨_, rfl, ?_⟩; have p226 : 0 ≤ (x8_4 : Int) := of_decide_eq_true (by first | (with_reducible assumption) | assumption); have q226 : x8_4 < (y219.length : Int) := of_decide_eq_true (by first | (with_reducible assumption) | assumption); obtain ⟨ad226, e226, hx226_0⟩ := Kd.at_string (Kd.R_reads' HO_7.out).2.2 x8_4 p226 q226; obtain rfl : ad222 = ad226 := (by injection e226); replace p226 := eq_true p226; replace q226 := eq_true q226) | ((with_reducible refine gate_callee (f := 20) rfl ?_); refine goesL_ (some 98) rfl rfl Try.func20 (by kernel_rfl) rfl #[.string (rdOf ByteArray.empty y219 x8_4)] rfl (by (try simp only [List.map_toArray, List.map_cons, List.map_nil]); first | done | rfl | (simp only [List.length_drop, List.length_take]; rfl)) ?_; (with_reducible refine (thresherref3_TakeFrame.calls k4 (rdOf ByteArray.empty y219 x8_4) t227 t228 t229 _ A30.out).mono ?_); rintro e w' ⟨rfl, ⟨nd, rfl⟩⟩; refine ⟨_, rfl, ?_⟩; have p230 : 0 ≤ (x8_4 : Int) := of_decide_eq_true (by first | (with_reducible assumption) | assumption); have q230 : x8_4 < (y219.length : Int) := of_decide_eq_true (by first | (with_reducible assumption) | assumption); obtain ⟨ad230, e230, hx230_0⟩ := Kd.at_string (Kd.R_reads' HO_7.out).2.2 x8_4 p230 q230; obtain rfl : ad222 = ad230 := (by injection e230); replace p230 := eq_true p230; replace q230 := eq_true q230) | ((with_reducible refine gate_callee (f := 21) rfl ?_); refine goesL_ (some 107) rfl rfl Try.func21 (by kernel_rfl) rfl #[.string (rdOf ByteArray.empty y219 x8_4)] rfl (by (try simp only [List.map_toArray, List.map_cons, List.map_nil]); first | done | rfl | (simp only [List.length_drop, List.length_take]; rfl)) ?_; (with_reducible refine (frame_Scan.calls k4 (rdOf ByteArray.empty y219 x8_4) t231 t232 _ A31.out).mono ?_); rintro e w62 ⟨v233, rfl, ho0, hb⟩; refine ⟨_, rfl, ?_⟩; have n0_ := Aside0.mk (Kd.R_elder' (by (with_reducible repeat (first | apply Kd.R_alloc | apply Kd.R_drewN | apply Kd.R_drew)); exact HO_7.out) (Kd.R_base ho0) hb); have n1_ := Aside0.mk (Kd.R_lower (Kd.R_new' ho0 (Kd.R_lt (by (with_reducible repeat (first | apply Kd.R_alloc | apply Kd.R_drewN | apply Kd.R_drew)); exact HO_7.out))) (below_size (by repeat (first | (with_reducible first | exact HB.out | apply below_alloc | apply pw_below_drewN | apply below_drew1) | exact HB.out)))); have n2_ := Aside0.mk (below_step (by repeat (first | (with_reducible first | exact HB.out | apply below_alloc | apply pw_below_drewN | apply below_drew1) | exact HB.out)) hb); clear HO_7; clear HB; have HO_7 := n0_; have HO234 := n1_; have HB := n2_; clear n0_ n1_ n2_; (try clear hb); (try clear hb2); (try clear hk); (try clear hi); (try clear ho0); have p235 : 0 ≤ (x8_4 : Int) := of_decide_eq_true (by first | (with_reducible assumption) | assumption); have q235 : x8_4 < (y219.length : Int) := of_decide_eq_true (by first | (with_reducible assumption) | assumption); obtain ⟨ad235, e235, hx235_0⟩ := Kd.at_string (Kd.R_reads' HO_7.out).2.2 x8_4 p235 q235; obtain rfl : ad222 = ad235 := (by injection e235); replace p235 := eq_true p235; replace q235 := eq_true q235) | ((with_reducible refine gate_callee (f := 22) rfl ?_); refine goesL_ (some 115) rfl rfl Try.func22 (by kernel_rfl) rfl #[.string (rdOf ByteArray.empty y219 x8_4)] rfl (by (try simp only [List.map_toArray, List.map_cons, List.map_nil]); first | done | rfl | (simp only [List.length_drop, List.length_take]; rfl)) ?_; (with_reducible refine (thresherref3_Scan.calls k4 (rdOf ByteArray.empty y219 x8_4) t236 t237 _ A32.out).mono ?_); rintro e w63 ⟨v238, rfl, ho0, hb⟩; refine ⟨_, rfl, ?_⟩; have n0_ := Aside0.mk (Kd.R_elder' (by (with_reducible repeat (first | apply Kd.R_alloc | apply Kd.R_drewN | apply Kd.R_drew)); exact HO_7.out) (Kd.R_base ho0) hb); have n1_ := Aside0.mk (Kd.R_elder' (by (with_reducible repeat (first | apply Kd.R_alloc | apply Kd.R_drewN | apply Kd.R_drew)); exact HO234.out) (Kd.R_base ho0) hb); have n2_ := Aside0.mk (Kd.R_lower (Kd.R_new' (Kd.R_new' ho0 (Kd.R_lt (by (with_reducible repeat (first | apply Kd.R_alloc | apply Kd.R_drewN | apply Kd.R_drew)); exact HO_7.out))) (Kd.R_lt (by (with_reducible repeat (first | apply Kd.R_alloc | apply Kd.R_drewN | apply Kd.R_drew)); exact HO234.out))) (below_size (by repeat (first | (with_reducible first | exact HB.out | apply below_alloc | apply pw_below_drewN | apply below_drew1) | exact HB.out)))); have n3_ := Aside0.mk (below_step (by repeat (first | (with_reducible first | exact HB.out | apply below_alloc | apply pw_below_drewN | apply below_drew1) | exact HB.out)) hb); clear HO_7; clear HO234; clear HB; have HO_7 := n0_; have HO234 := n1_; have HO239 := n2_; have HB := n3_; clear n0_ n1_ n2_ n3_; (try clear hb); (try clear hb2); (try clear hk); (try clear hi); (try clear ho0)))
                                            go_ret
                                            exact ⟨by first | rfl | (simp [errW_none, errW_some] <;> rfl) | (simp [*, errW_none, errW_some] <;> rfl), by repeat (first | (with_reducible first | exact HB.out | apply below_alloc | apply pw_below_drewN | apply below_drew1) | exact HB.out)⟩
                                        · rw [if_neg c28] at H
                                          exact absurd H (by simp)
                                      · rw [if_neg c27] at H
                                        have c27b0 : decide (x8_4 < (y219.length : Int)) = false := decide_eq_false c27
                                        clear c27
                                        have H' := Aside0.mk H
                                        clear H
                                        obtain ⟨Ao64, co64, eo64⟩ := Kd.R_slice HO_7.out
                                        subst eo64
                                        go_wp2
                                        go_roundg k4
                                        case measure => have := HK1.out; have := HJ3.out; have := HJ9.out; have := HK4.out; omega
                                        case rel => exact ⟨((x3_1 ++ t215)), (wrap64 (x4_1 + 1)), (by first | rfl | (simp; done) | (simp [*]; done)), (by first | rfl | (simp; done) | (simp [*]; done)), H', ⟨by have := HK1.out; have := HJ3.out; have := HJ9.out; have := HK4.out; omega⟩, ⟨by repeat (first | (with_reducible first | exact HB.out | apply below_alloc | apply pw_below_drewN | apply below_drew1) | exact HB.out)⟩⟩
                                · rw [if_neg c22] at H
                                  exact absurd H (by simp)
                              · rw [if_neg c21] at H
                                exact absurd H (by simp)
                            · rw [if_neg c20] at H
                              exact absurd H (by simp)
                          · rw [if_neg c18] at H
                            exact absurd H (by simp)
                        · rw [if_neg c17] at H
                          exact absurd H (by simp)
                · rw [if_neg c8] at H
                  exact absurd H (by simp)
              · rw [if_neg c7] at H
                exact absurd H (by simp)
            · replace c6 := Bool.eq_false_iff.mpr c6
              subst c6
              have H1 : (if 32769 ≤ 281474976710656 then ((frame_Bytes.f kj3 (strOfNums (List.replicate 32769 0))).bind fun bt204 => ((thresherlaw5_num.f bt204.2).bind fun t206 => (if t206 = 2 then ((thresherlaw5_wakes.f kj3).bind fun t207 => (some t207)) else (some false)))) else (none)) = some r := by rw [if_neg (show ¬ (false = true) by decide)] at H; exact H
              clear H
              have H := H1
              clear H1
              by_cases c65 : 32769 ≤ 281474976710656
              · rw [if_pos c65] at H
                have c65b0 := eq_true c65
                have c65b1 : decide (32769 ≤ 281474976710656) = true := decide_eq_true c65
                clear c65
                obtain ⟨y201, hy201⟩ : ∃ y_ : List Int, y_ = (List.replicate 32769 0) := ⟨_, rfl⟩
                replace H : ((frame_Bytes.f kj3 (strOfNums y201)).bind fun bt204 => ((thresherlaw5_num.f bt204.2).bind fun t206 => (if t206 = 2 then ((thresherlaw5_wakes.f kj3).bind fun t207 => (some t207)) else (some false)))) = some r := by first | (rw [hy201]; with_reducible exact H) | (have H2_ := (Option.bind_some _ _).symm.trans H; rw [hy201]; with_reducible exact H2_) | (have H2_ := (Option.bind_some _ _).symm.trans H; with_reducible exact H2_) | with_reducible exact H | (rw [hy201]; exact H) | exact H
                have Ny201 := Aside0.mk hy201
                clear hy201
                replace H := Option.bind_eq_some_iff.mp H
                obtain ⟨⟨t204, t205⟩, A660, H⟩ := H
                replace H : ((thresherlaw5_num.f t205).bind fun t206 => (if t206 = 2 then ((thresherlaw5_wakes.f kj3).bind fun t207 => (some t207)) else (some false))) = some r := H
                have A66 := Aside0.mk A660
                clear A660
                replace H := Option.bind_eq_some_iff.mp H
                obtain ⟨t206, A670, H⟩ := H
                replace H : (if t206 = 2 then ((thresherlaw5_wakes.f kj3).bind fun t207 => (some t207)) else (some false)) = some r := H
                have A67 := Aside0.mk A670
                clear A670
                by_cases c68 : t206 = 2
                · rw [if_pos c68] at H
                  have c68b0 : (t206 == 2) = true := beq_iff_eq.mpr c68
                  have c68b1 : (t206 != 2) = false := bne_eq_false_iff_eq.mpr c68
                  clear c68
                  replace H := Option.bind_eq_some_iff.mp H
                  obtain ⟨t207, A690, H⟩ := H
                  replace H : (some t207) = some r := H
                  have A69 := Aside0.mk A690
                  clear A690
                  obtain rfl := Option.some.inj H
                  go_wp2_with (first | ((with_reducible refine gate_dst (N := 144) rfl ?_); refine Kd.R_make (Kd.int .u8) _ 5 rfl (N := 144) rfl 44 _ _ rfl 32769 rfl rfl Try.underlying44 (.int .u8 0) 1 info5 rfl (by decide) (by omega) 0 (ok := fun _ => True) (okp := fun _ => True) rfl (fun _ hk => hk) trivial (by omega) (by omega) (Below.refl _ _) (Nat.le_refl _) ?_; intro v202 w70 ho71 hb hg_ hnew_; clear hg_ hnew_; (first | rw [← Ny201.out] at ho71 | (simp only [Int.reduceToNat] at ho71; rw [← Ny201.out] at ho71)); have n0_ := Aside0.mk (Kd.R_lower ho71 (below_size (by repeat (first | (with_reducible first | exact HB.out | apply below_alloc | apply pw_below_drewN | apply below_drew1) | exact HB.out)))); have n1_ := Aside0.mk (below_step (by repeat (first | (with_reducible first | exact HB.out | apply below_alloc | apply pw_below_drewN | apply below_drew1) | exact HB.out)) hb); clear HB; have HO203 := n0_; have HB := n1_; clear n0_ n1_; clear hb ho71; have hcv72 := own_string (P := Try.prog) Try.underlying44 Try.underlying5 Try.underlying9 (Kd.own_of_R HO203.out)) | ((with_reducible refine gate_callee (f := 16) rfl ?_); refine goesL_ (some 146) rfl rfl Try.func16 (by kernel_rfl) rfl #[.string (strOfNums y201)] rfl (by (try simp only [List.map_toArray, List.map_cons, List.map_nil]); first | done | rfl | (simp only [List.length_drop, List.length_take]; rfl)) ?_; (with_reducible refine (frame_Bytes.calls kj3 (strOfNums y201) t204 t205 _ A66.out).mono ?_); rintro e w73 ⟨rfl, hb⟩; refine ⟨_, rfl, ?_⟩; have n0_ := Aside0.mk (Kd.R_below (by (with_reducible repeat (first | apply Kd.R_alloc | apply Kd.R_drewN | apply Kd.R_drew)); exact HO203.out) hb); have n1_ := Aside0.mk (below_step (by repeat (first | (with_reducible first | exact HB.out | apply below_alloc | apply pw_below_drewN | apply below_drew1) | exact HB.out)) hb); clear HO203; clear HB; have HO203 := n0_; have HB := n1_; clear n0_ n1_; (try clear hb); (try clear hb2); (try clear hk); (try clear hi)) | ((with_reducible refine gate_callee (f := 17) rfl ?_); refine goesL_ (some 150) rfl rfl Try.func17 (by kernel_rfl) rfl #[.int .i64 t205] rfl (by (try simp only [List.map_toArray, List.map_cons, List.map_nil]); first | done | rfl | (simp only [List.length_drop, List.length_take]; rfl)) ?_; (with_reducible refine (thresherlaw5_num.calls t205 t206 _ A67.out).mono ?_); rintro e w' ⟨rfl, ⟨nd, rfl⟩⟩; refine ⟨_, rfl, ?_⟩) | (go_at_call 24; (with_reducible refine (thresherlaw5_wakes.calls kj3  t207 _ A69.out).mono ?_); rintro e w74 ⟨rfl, hb⟩; have n0_ := Aside0.mk (Kd.R_below (by (with_reducible repeat (first | apply Kd.R_alloc | apply Kd.R_drewN | apply Kd.R_drew)); exact HO203.out) hb); have n1_ := Aside0.mk (below_step (by repeat (first | (with_reducible first | exact HB.out | apply below_alloc | apply pw_below_drewN | apply below_drew1) | exact HB.out)) hb); clear HO203; clear HB; have HO203 := n0_; have HB := n1_; clear n0_ n1_; (try clear hb); (try clear hb2); (try clear hk); (try clear hi)))
                  go_ret
                  exact ⟨by first | rfl | (simp [errW_none, errW_some] <;> rfl) | (simp [*, errW_none, errW_some] <;> rfl), by repeat (first | (with_reducible first | exact HB.out | apply below_alloc | apply pw_below_drewN | apply below_drew1) | exact HB.out)⟩
                · rw [if_neg c68] at H
                  have c68b0 : (t206 == 2) = false := beq_eq_false_iff_ne.mpr c68
                  have c68b1 : (t206 != 2) = true := bne_iff_ne.mpr c68
                  obtain rfl := Option.some.inj H
                  go_wp2_with (first | ((with_reducible refine gate_dst (N := 144) rfl ?_); refine Kd.R_make (Kd.int .u8) _ 5 rfl (N := 144) rfl 44 _ _ rfl 32769 rfl rfl Try.underlying44 (.int .u8 0) 1 info5 rfl (by decide) (by omega) 0 (ok := fun _ => True) (okp := fun _ => True) rfl (fun _ hk => hk) trivial (by omega) (by omega) (Below.refl _ _) (Nat.le_refl _) ?_; intro v202 w75 ho76 hb hg_ hnew_; clear hg_ hnew_; (first | rw [← Ny201.out] at ho76 | (simp only [Int.reduceToNat] at ho76; rw [← Ny201.out] at ho76)); have n0_ := Aside0.mk (Kd.R_lower ho76 (below_size (by repeat (first | (with_reducible first | exact HB.out | apply below_alloc | apply pw_below_drewN | apply below_drew1) | exact HB.out)))); have n1_ := Aside0.mk (below_step (by repeat (first | (with_reducible first | exact HB.out | apply below_alloc | apply pw_below_drewN | apply below_drew1) | exact HB.out)) hb); clear HB; have HO203 := n0_; have HB := n1_; clear n0_ n1_; clear hb ho76; have hcv77 := own_string (P := Try.prog) Try.underlying44 Try.underlying5 Try.underlying9 (Kd.own_of_R HO203.out)) | ((with_reducible refine gate_callee (f := 16) rfl ?_); refine goesL_ (some 146) rfl rfl Try.func16 (by kernel_rfl) rfl #[.string (strOfNums y201)] rfl (by (try simp only [List.map_toArray, List.map_cons, List.map_nil]); first | done | rfl | (simp only [List.length_drop, List.length_take]; rfl)) ?_; (with_reducible refine (frame_Bytes.calls kj3 (strOfNums y201) t204 t205 _ A66.out).mono ?_); rintro e w78 ⟨rfl, hb⟩; refine ⟨_, rfl, ?_⟩; have n0_ := Aside0.mk (Kd.R_below (by (with_reducible repeat (first | apply Kd.R_alloc | apply Kd.R_drewN | apply Kd.R_drew)); exact HO203.out) hb); have n1_ := Aside0.mk (below_step (by repeat (first | (with_reducible first | exact HB.out | apply below_alloc | apply pw_below_drewN | apply below_drew1) | exact HB.out)) hb); clear HO203; clear HB; have HO203 := n0_; have HB := n1_; clear n0_ n1_; (try clear hb); (try clear hb2); (try clear hk); (try clear hi)) | ((with_reducible refine gate_callee (f := 17) rfl ?_); refine goesL_ (some 150) rfl rfl Try.func17 (by kernel_rfl) rfl #[.int .i64 t205] rfl (by (try simp only [List.map_toArray, List.map_cons, List.map_nil]); first | done | rfl | (simp only [List.length_drop, List.length_take]; rfl)) ?_; (with_reducible refine (thresherlaw5_num.calls t205 t206 _ A67.out).mono ?_); rintro e w' ⟨rfl, ⟨nd, rfl⟩⟩; refine ⟨_, rfl, ?_⟩))
                  go_ret
                  exact ⟨by first | rfl | (simp [errW_none, errW_some] <;> rfl) | (simp [*, errW_none, errW_some] <;> rfl), by repeat (first | (with_reducible first | exact HB.out | apply below_alloc | apply pw_below_drewN | apply below_drew1) | exact HB.out)⟩
              · rw [if_neg c65] at H
                exact absurd H (by simp)

/-! ### thresherlaw0_Within: function 25 -/
def thresherlaw0_Within.f (a0 : Int) (a1 : Int) : Option (Int) := if (IntKind.u64.wrap (a1)) = 0 then (none) else (some (wrap64 (Int.tmod (IntKind.u64.wrap (a0)) (IntKind.u64.wrap (a1)))))
set_option maxHeartbeats 8000000 in
set_option maxRecDepth 100000 in
theorem thresherlaw0_Within.calls (a0 : Int) (a1 : Int) (r : Int) (w : World) (h : thresherlaw0_Within.f a0 a1 = some r) :
    Calls Try.prog 25 #[.int .i64 a0, .int .i64 a1] w fun e w' => e = .returned (.int .i64 r) ∧ Drawn0 w w' := by
  have H : (if (IntKind.u64.wrap (a1)) = 0 then (none) else (some (wrap64 (Int.tmod (IntKind.u64.wrap (a0)) (IntKind.u64.wrap (a1)))))) = some r := h
  clear h
  by_cases c3 : (IntKind.u64.wrap (a1)) = 0
  · rw [if_pos c3] at H
    exact absurd H (by simp)
  · rw [if_neg c3] at H
    have c3b0 : ((IntKind.u64.wrap (a1)) == 0) = false := beq_eq_false_iff_ne.mpr c3
    have c3b1 : ((IntKind.u64.wrap (a1)) != 0) = true := bne_iff_ne.mpr c3
    obtain rfl := Option.some.inj H
    go_enter Try.func25, Try.ntmps25
    go_wp2
    go_ret
    exact ⟨by first | rfl | (simp; done) | (simp [*]; done), by repeat (first | exact Drawn0.refl _ | apply Drawn0.step)⟩

end Go.Proofs.Ytjnlmcpcdgfpkaa.Q
