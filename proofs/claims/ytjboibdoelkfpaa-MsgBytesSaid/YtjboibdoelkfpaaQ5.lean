/- Contracts of the Go functions that these laws reach: each call answers what the plain Lean function beside it says. Written by a program of this session (pp.py). -/
import Derived.Test.YtjboibdoelkfpaaQ0
import Derived.Test.YtjboibdoelkfpaaQ1
import Derived.Test.YtjboibdoelkfpaaQ4
namespace Go.Proofs.Ytjboibdoelkfpaa.Q
open Go.RowKit Go.Proofs.YtjboibdoelkfpaaW.PrintWords Go.Proofs.YtjboibdoelkfpaaW.PrintLast Go.Proofs.YtjboibdoelkfpaaW.PrintMore
attribute [local go_sem] max2_int min2_int max_two min_two max_three min_three max_four min_four   -- for this text's walks alone
set_option linter.unusedVariables false
set_option linter.unusedSimpArgs false

/-! ### thresherref15_Msg: function 22 -/
namespace MsgRef
attribute [local go_sem high] eqA29
open Go.Proofs.Ytjboibdoelkfpaa.Bits7
theorem mrDrew (W : World) (p : Addr) : W.drew.cell? p = W.cell? p := rfl
theorem mrInfo : (Try.prog.info? 29).map (·.size) = some 11 := by kernel_rfl
set_option maxHeartbeats 16000000 in
set_option maxRecDepth 100000 in
theorem mrLow (K F T : Int) (J S E O L U C : Int) (D : ByteArray) (w : World) (hK : K < 1) :
    Calls Try.prog 22 #[.agg #[.int .i64 K, .int .i64 F, .int .i64 T, .int .i64 J, .int .i64 S, .int .i64 E, .int .i64 O, .int .i64 L, .int .u32 U, .int .i64 C, .string D]] w fun e w' => e = .returned (.bool false) ∧ Below w.heap.size w w' := by
  have hu29 := Try.underlying29
  have HB := Aside0.mk (Below.refl w.heap.size w)
  have k1 : decide (K < 1) = true := decide_eq_true hK
  clear hK
  go_enter Try.func22, Try.ntmps22
  go_wp2_with (first
    | ((with_reducible refine gate_dst (N := 1) rfl ?_); refine box_event ?hg (N := 1) ?hd (cs := #[.int .i64 K, .int .i64 F, .int .i64 T, .int .i64 J, .int .i64 S, .int .i64 E, .int .i64 O, .int .i64 L, .int .u32 U, .int .i64 C, .string D]) (t := 29) ?hr ?_; (case hd => rfl); (case hg => rfl); (case hr => first | (go_simp; done) | (go_simp; rfl)); intro gb hg w2 hbox hb; have n0_ := Aside0.mk (below_step HB.out hb); have BK := Aside0.mk hbox; clear HB; have HB := n0_; clear n0_; clear hb hbox hg; obtain ⟨hz0, hz1, hz2, hz3, hz4, hz5, hz6, hz7, hz8, hz9, hz10⟩ := cells11 BK.out; have hzf := fun i_ => blk_frozen BK.out i_))
  go_ret
  exact ⟨by first | rfl | simp, by repeat (first | (with_reducible first | exact HB.out | refine pw_below_drewN ?_ _ | refine below_drew1 ?_ | refine below_set ?_ HGW.out) | exact HB.out)⟩
set_option maxHeartbeats 16000000 in
set_option maxRecDepth 100000 in
theorem mrHigh (K F T : Int) (J S E O L U C : Int) (D : ByteArray) (w : World) (hK : 8 < K) :
    Calls Try.prog 22 #[.agg #[.int .i64 K, .int .i64 F, .int .i64 T, .int .i64 J, .int .i64 S, .int .i64 E, .int .i64 O, .int .i64 L, .int .u32 U, .int .i64 C, .string D]] w fun e w' => e = .returned (.bool false) ∧ Below w.heap.size w w' := by
  have hu29 := Try.underlying29
  have HB := Aside0.mk (Below.refl w.heap.size w)
  have k1 : decide (K < 1) = false := decide_eq_false (by omega)
  have k2 : decide (8 < K) = true := decide_eq_true hK
  have k3 : decide (K > 8) = true := decide_eq_true hK
  clear hK
  go_enter Try.func22, Try.ntmps22
  go_wp2_with (first
    | ((with_reducible refine gate_dst (N := 1) rfl ?_); refine box_event ?hg (N := 1) ?hd (cs := #[.int .i64 K, .int .i64 F, .int .i64 T, .int .i64 J, .int .i64 S, .int .i64 E, .int .i64 O, .int .i64 L, .int .u32 U, .int .i64 C, .string D]) (t := 29) ?hr ?_; (case hd => rfl); (case hg => rfl); (case hr => first | (go_simp; done) | (go_simp; rfl)); intro gb hg w2 hbox hb; have n0_ := Aside0.mk (below_step HB.out hb); have BK := Aside0.mk hbox; clear HB; have HB := n0_; clear n0_; clear hb hbox hg; obtain ⟨hz0, hz1, hz2, hz3, hz4, hz5, hz6, hz7, hz8, hz9, hz10⟩ := cells11 BK.out; have hzf := fun i_ => blk_frozen BK.out i_))
  go_ret
  exact ⟨by first | rfl | simp, by repeat (first | (with_reducible first | exact HB.out | refine pw_below_drewN ?_ _ | refine below_drew1 ?_ | refine below_set ?_ HGW.out) | exact HB.out)⟩
set_option maxHeartbeats 16000000 in
set_option maxRecDepth 100000 in
theorem mrFrom (K F T : Int) (J S E O L U C : Int) (D : ByteArray) (w : World) (hK : 1 ≤ K ∧ K ≤ 8) (h : thresherref0_Num.f F 3 = some false) :
    Calls Try.prog 22 #[.agg #[.int .i64 K, .int .i64 F, .int .i64 T, .int .i64 J, .int .i64 S, .int .i64 E, .int .i64 O, .int .i64 L, .int .u32 U, .int .i64 C, .string D]] w fun e w' => e = .returned (.bool false) ∧ Below w.heap.size w w' := by
  have hu29 := Try.underlying29
  have HB := Aside0.mk (Below.refl w.heap.size w)
  have k1 : decide (K < 1) = false := decide_eq_false (by omega)
  have k2 : decide (8 < K) = false := decide_eq_false (by omega)
  have k3 : decide (K > 8) = false := decide_eq_false (by omega)
  clear hK
  have HF := Aside0.mk h
  clear h
  go_enter Try.func22, Try.ntmps22
  go_wp2_with (first
    | ((with_reducible refine gate_dst (N := 1) rfl ?_); refine box_event ?hg (N := 1) ?hd (cs := #[.int .i64 K, .int .i64 F, .int .i64 T, .int .i64 J, .int .i64 S, .int .i64 E, .int .i64 O, .int .i64 L, .int .u32 U, .int .i64 C, .string D]) (t := 29) ?hr ?_; (case hd => rfl); (case hg => rfl); (case hr => first | (go_simp; done) | (go_simp; rfl)); intro gb hg w2 hbox hb; have n0_ := Aside0.mk (below_step HB.out hb); have BK := Aside0.mk hbox; clear HB; have HB := n0_; clear n0_; clear hb hbox hg; obtain ⟨hz0, hz1, hz2, hz3, hz4, hz5, hz6, hz7, hz8, hz9, hz10⟩ := cells11 BK.out; have hzf := fun i_ => blk_frozen BK.out i_)
    | (go_at_call 34; (with_reducible refine (thresherref0_Num.calls F 3 _ _ HF.out).mono ?_); rintro e w' ⟨rfl, ⟨nd, rfl⟩⟩))
  go_ret
  exact ⟨by first | rfl | simp, by repeat (first | (with_reducible first | exact HB.out | refine pw_below_drewN ?_ _ | refine below_drew1 ?_ | refine below_set ?_ HGW.out) | exact HB.out)⟩
set_option maxHeartbeats 16000000 in
set_option maxRecDepth 100000 in
theorem mrTo (K F T : Int) (J S E O L U C : Int) (D : ByteArray) (w : World) (hK : 1 ≤ K ∧ K ≤ 8) (h : thresherref0_Num.f F 3 = some true) (h2 : thresherref0_Num.f T 3 = some false) :
    Calls Try.prog 22 #[.agg #[.int .i64 K, .int .i64 F, .int .i64 T, .int .i64 J, .int .i64 S, .int .i64 E, .int .i64 O, .int .i64 L, .int .u32 U, .int .i64 C, .string D]] w fun e w' => e = .returned (.bool false) ∧ Below w.heap.size w w' := by
  have hu29 := Try.underlying29
  have HB := Aside0.mk (Below.refl w.heap.size w)
  have k1 : decide (K < 1) = false := decide_eq_false (by omega)
  have k2 : decide (8 < K) = false := decide_eq_false (by omega)
  have k3 : decide (K > 8) = false := decide_eq_false (by omega)
  clear hK
  have HF := Aside0.mk h
  clear h
  have HT := Aside0.mk h2
  clear h2
  go_enter Try.func22, Try.ntmps22
  go_wp2_with (first
    | ((with_reducible refine gate_dst (N := 1) rfl ?_); refine box_event ?hg (N := 1) ?hd (cs := #[.int .i64 K, .int .i64 F, .int .i64 T, .int .i64 J, .int .i64 S, .int .i64 E, .int .i64 O, .int .i64 L, .int .u32 U, .int .i64 C, .string D]) (t := 29) ?hr ?_; (case hd => rfl); (case hg => rfl); (case hr => first | (go_simp; done) | (go_simp; rfl)); intro gb hg w2 hbox hb; have n0_ := Aside0.mk (below_step HB.out hb); have BK := Aside0.mk hbox; clear HB; have HB := n0_; clear n0_; clear hb hbox hg; obtain ⟨hz0, hz1, hz2, hz3, hz4, hz5, hz6, hz7, hz8, hz9, hz10⟩ := cells11 BK.out; have hzf := fun i_ => blk_frozen BK.out i_)
    | (go_at_call 34; (with_reducible refine (thresherref0_Num.calls F 3 _ _ HF.out).mono ?_); rintro e w' ⟨rfl, ⟨nd, rfl⟩⟩)
    | (go_at_call 34; (with_reducible refine (thresherref0_Num.calls T 3 _ _ HT.out).mono ?_); rintro e w' ⟨rfl, ⟨nd, rfl⟩⟩))
  go_ret
  exact ⟨by first | rfl | simp, by repeat (first | (with_reducible first | exact HB.out | refine pw_below_drewN ?_ _ | refine below_drew1 ?_ | refine below_set ?_ HGW.out) | exact HB.out)⟩
set_option maxHeartbeats 16000000 in
set_option maxRecDepth 100000 in
theorem mrNone (K : Int) (J S E O L U C : Int) (D : ByteArray) (w : World) (hK : 1 ≤ K ∧ K ≤ 8) :
    Calls Try.prog 22 #[.agg #[.int .i64 K, .int .i64 0, .int .i64 0, .int .i64 J, .int .i64 S, .int .i64 E, .int .i64 O, .int .i64 L, .int .u32 U, .int .i64 C, .string D]] w fun e w' => e = .returned (.bool false) ∧ Below w.heap.size w w' := by
  have hu29 := Try.underlying29
  have HB := Aside0.mk (Below.refl w.heap.size w)
  have k1 : decide (K < 1) = false := decide_eq_false (by omega)
  have k2 : decide (8 < K) = false := decide_eq_false (by omega)
  have k3 : decide (K > 8) = false := decide_eq_false (by omega)
  clear hK
  go_enter Try.func22, Try.ntmps22
  go_wp2_with (first
    | ((with_reducible refine gate_dst (N := 1) rfl ?_); refine box_event ?hg (N := 1) ?hd (cs := #[.int .i64 K, .int .i64 0, .int .i64 0, .int .i64 J, .int .i64 S, .int .i64 E, .int .i64 O, .int .i64 L, .int .u32 U, .int .i64 C, .string D]) (t := 29) ?hr ?_; (case hd => rfl); (case hg => rfl); (case hr => first | (go_simp; done) | (go_simp; rfl)); intro gb hg w2 hbox hb; have n0_ := Aside0.mk (below_step HB.out hb); have BK := Aside0.mk hbox; clear HB; have HB := n0_; clear n0_; clear hb hbox hg; obtain ⟨hz0, hz1, hz2, hz3, hz4, hz5, hz6, hz7, hz8, hz9, hz10⟩ := cells11 BK.out; have hzf := fun i_ => blk_frozen BK.out i_)
    | (go_at_call 34; (with_reducible refine (thresherref0_Num.calls 0 3 _ _ rfl).mono ?_); rintro e w' ⟨rfl, ⟨nd, rfl⟩⟩))
  go_ret
  exact ⟨by first | rfl | simp, by repeat (first | (with_reducible first | exact HB.out | refine pw_below_drewN ?_ _ | refine below_drew1 ?_ | refine below_set ?_ HGW.out) | exact HB.out)⟩
set_option maxHeartbeats 16000000 in
set_option maxRecDepth 100000 in
theorem mrBoth (K F T : Int) (J S E O L U C : Int) (D : ByteArray) (w : World) (hK : 1 ≤ K ∧ K ≤ 8) (h : thresherref0_Num.f F 3 = some true) (h2 : thresherref0_Num.f T 3 = some true) (hF : F ≠ 0) (hT : T ≠ 0) :
    Calls Try.prog 22 #[.agg #[.int .i64 K, .int .i64 F, .int .i64 T, .int .i64 J, .int .i64 S, .int .i64 E, .int .i64 O, .int .i64 L, .int .u32 U, .int .i64 C, .string D]] w fun e w' => e = .returned (.bool false) ∧ Below w.heap.size w w' := by
  have hu29 := Try.underlying29
  have HB := Aside0.mk (Below.refl w.heap.size w)
  have k1 : decide (K < 1) = false := decide_eq_false (by omega)
  have k2 : decide (8 < K) = false := decide_eq_false (by omega)
  have k3 : decide (K > 8) = false := decide_eq_false (by omega)
  clear hK
  have HF := Aside0.mk h
  clear h
  have HT := Aside0.mk h2
  clear h2
  have hF1 : (F == 0) = false := beq_eq_false_iff_ne.mpr hF
  have hF2 : (F != 0) = true := bne_iff_ne.mpr hF
  clear hF
  have hT1 : (T == 0) = false := beq_eq_false_iff_ne.mpr hT
  have hT2 : (T != 0) = true := bne_iff_ne.mpr hT
  clear hT
  go_enter Try.func22, Try.ntmps22
  go_wp2_with (first
    | ((with_reducible refine gate_dst (N := 1) rfl ?_); refine box_event ?hg (N := 1) ?hd (cs := #[.int .i64 K, .int .i64 F, .int .i64 T, .int .i64 J, .int .i64 S, .int .i64 E, .int .i64 O, .int .i64 L, .int .u32 U, .int .i64 C, .string D]) (t := 29) ?hr ?_; (case hd => rfl); (case hg => rfl); (case hr => first | (go_simp; done) | (go_simp; rfl)); intro gb hg w2 hbox hb; have n0_ := Aside0.mk (below_step HB.out hb); have BK := Aside0.mk hbox; clear HB; have HB := n0_; clear n0_; clear hb hbox hg; obtain ⟨hz0, hz1, hz2, hz3, hz4, hz5, hz6, hz7, hz8, hz9, hz10⟩ := cells11 BK.out; have hzf := fun i_ => blk_frozen BK.out i_)
    | (go_at_call 34; (with_reducible refine (thresherref0_Num.calls F 3 _ _ HF.out).mono ?_); rintro e w' ⟨rfl, ⟨nd, rfl⟩⟩)
    | (go_at_call 34; (with_reducible refine (thresherref0_Num.calls T 3 _ _ HT.out).mono ?_); rintro e w' ⟨rfl, ⟨nd, rfl⟩⟩))
  go_ret
  exact ⟨by first | rfl | simp, by repeat (first | (with_reducible first | exact HB.out | refine pw_below_drewN ?_ _ | refine below_drew1 ?_ | refine below_set ?_ HGW.out) | exact HB.out)⟩
set_option maxHeartbeats 16000000 in
set_option maxRecDepth 100000 in
theorem mrJob0 (K T : Int) (J S E O L U C : Int) (D : ByteArray) (w : World) (hK : 1 ≤ K ∧ K ≤ 8) (h : thresherref0_Num.f T 3 = some true) (hT : T ≠ 0) (hJ : thresherref0_ID.f J = some false) :
    Calls Try.prog 22 #[.agg #[.int .i64 K, .int .i64 0, .int .i64 T, .int .i64 J, .int .i64 S, .int .i64 E, .int .i64 O, .int .i64 L, .int .u32 U, .int .i64 C, .string D]] w fun e w' => e = .returned (.bool false) ∧ Below w.heap.size w w' := by
  have hu29 := Try.underlying29
  have HB := Aside0.mk (Below.refl w.heap.size w)
  have k1 : decide (K < 1) = false := decide_eq_false (by omega)
  have k2 : decide (8 < K) = false := decide_eq_false (by omega)
  have k3 : decide (K > 8) = false := decide_eq_false (by omega)
  clear hK
  have HX := Aside0.mk h
  clear h
  have HJ := Aside0.mk hJ
  clear hJ
  have hT1 : (T == 0) = false := beq_eq_false_iff_ne.mpr hT
  have hT2 : (T != 0) = true := bne_iff_ne.mpr hT
  clear hT
  go_enter Try.func22, Try.ntmps22
  go_wp2_with (first
    | ((with_reducible refine gate_dst (N := 1) rfl ?_); refine box_event ?hg (N := 1) ?hd (cs := #[.int .i64 K, .int .i64 0, .int .i64 T, .int .i64 J, .int .i64 S, .int .i64 E, .int .i64 O, .int .i64 L, .int .u32 U, .int .i64 C, .string D]) (t := 29) ?hr ?_; (case hd => rfl); (case hg => rfl); (case hr => first | (go_simp; done) | (go_simp; rfl)); intro gb hg w2 hbox hb; have n0_ := Aside0.mk (below_step HB.out hb); have BK := Aside0.mk hbox; clear HB; have HB := n0_; clear n0_; clear hb hbox hg; obtain ⟨hz0, hz1, hz2, hz3, hz4, hz5, hz6, hz7, hz8, hz9, hz10⟩ := cells11 BK.out; have hzf := fun i_ => blk_frozen BK.out i_)
    | (go_at_call 34; (with_reducible refine (thresherref0_Num.calls T 3 _ _ HX.out).mono ?_); rintro e w' ⟨rfl, ⟨nd, rfl⟩⟩)
    | (go_at_call 34; (with_reducible refine (thresherref0_Num.calls 0 3 _ _ rfl).mono ?_); rintro e w' ⟨rfl, ⟨nd, rfl⟩⟩)
    | (go_at_call 35; (with_reducible refine (thresherref0_ID.calls J _ _ HJ.out).mono ?_); rintro e w' ⟨rfl, ⟨nd, rfl⟩⟩))
  go_ret
  exact ⟨by first | rfl | simp, by repeat (first | (with_reducible first | exact HB.out | refine pw_below_drewN ?_ _ | refine below_drew1 ?_ | refine below_set ?_ HGW.out) | exact HB.out)⟩
set_option maxHeartbeats 16000000 in
set_option maxRecDepth 100000 in
theorem mrJob1 (K F : Int) (J S E O L U C : Int) (D : ByteArray) (w : World) (hK : 1 ≤ K ∧ K ≤ 8) (h : thresherref0_Num.f F 3 = some true) (hF : F ≠ 0) (hJ : thresherref0_ID.f J = some false) :
    Calls Try.prog 22 #[.agg #[.int .i64 K, .int .i64 F, .int .i64 0, .int .i64 J, .int .i64 S, .int .i64 E, .int .i64 O, .int .i64 L, .int .u32 U, .int .i64 C, .string D]] w fun e w' => e = .returned (.bool false) ∧ Below w.heap.size w w' := by
  have hu29 := Try.underlying29
  have HB := Aside0.mk (Below.refl w.heap.size w)
  have k1 : decide (K < 1) = false := decide_eq_false (by omega)
  have k2 : decide (8 < K) = false := decide_eq_false (by omega)
  have k3 : decide (K > 8) = false := decide_eq_false (by omega)
  clear hK
  have HX := Aside0.mk h
  clear h
  have HJ := Aside0.mk hJ
  clear hJ
  have hF1 : (F == 0) = false := beq_eq_false_iff_ne.mpr hF
  have hF2 : (F != 0) = true := bne_iff_ne.mpr hF
  clear hF
  go_enter Try.func22, Try.ntmps22
  go_wp2_with (first
    | ((with_reducible refine gate_dst (N := 1) rfl ?_); refine box_event ?hg (N := 1) ?hd (cs := #[.int .i64 K, .int .i64 F, .int .i64 0, .int .i64 J, .int .i64 S, .int .i64 E, .int .i64 O, .int .i64 L, .int .u32 U, .int .i64 C, .string D]) (t := 29) ?hr ?_; (case hd => rfl); (case hg => rfl); (case hr => first | (go_simp; done) | (go_simp; rfl)); intro gb hg w2 hbox hb; have n0_ := Aside0.mk (below_step HB.out hb); have BK := Aside0.mk hbox; clear HB; have HB := n0_; clear n0_; clear hb hbox hg; obtain ⟨hz0, hz1, hz2, hz3, hz4, hz5, hz6, hz7, hz8, hz9, hz10⟩ := cells11 BK.out; have hzf := fun i_ => blk_frozen BK.out i_)
    | (go_at_call 34; (with_reducible refine (thresherref0_Num.calls F 3 _ _ HX.out).mono ?_); rintro e w' ⟨rfl, ⟨nd, rfl⟩⟩)
    | (go_at_call 34; (with_reducible refine (thresherref0_Num.calls 0 3 _ _ rfl).mono ?_); rintro e w' ⟨rfl, ⟨nd, rfl⟩⟩)
    | (go_at_call 35; (with_reducible refine (thresherref0_ID.calls J _ _ HJ.out).mono ?_); rintro e w' ⟨rfl, ⟨nd, rfl⟩⟩))
  go_ret
  exact ⟨by first | rfl | simp, by repeat (first | (with_reducible first | exact HB.out | refine pw_below_drewN ?_ _ | refine below_drew1 ?_ | refine below_set ?_ HGW.out) | exact HB.out)⟩
set_option maxHeartbeats 16000000 in
set_option maxRecDepth 100000 in
theorem mrWay1 (F : Int) (J S E O L U C : Int) (D : ByteArray) (w : World) (h : thresherref0_Num.f F 3 = some true) (hF : F ≠ 0) (hJ : thresherref0_ID.f J = some true) :
    Calls Try.prog 22 #[.agg #[.int .i64 1, .int .i64 F, .int .i64 0, .int .i64 J, .int .i64 S, .int .i64 E, .int .i64 O, .int .i64 L, .int .u32 U, .int .i64 C, .string D]] w fun e w' => e = .returned (.bool false) ∧ Below w.heap.size w w' := by
  have hu29 := Try.underlying29
  have HB := Aside0.mk (Below.refl w.heap.size w)
  have HX := Aside0.mk h
  clear h
  have HJ := Aside0.mk hJ
  clear hJ
  have hF1 : (F == 0) = false := beq_eq_false_iff_ne.mpr hF
  have hF2 : (F != 0) = true := bne_iff_ne.mpr hF
  clear hF
  go_enter Try.func22, Try.ntmps22
  go_wp2_with (first
    | ((with_reducible refine gate_dst (N := 1) rfl ?_); refine box_event ?hg (N := 1) ?hd (cs := #[.int .i64 1, .int .i64 F, .int .i64 0, .int .i64 J, .int .i64 S, .int .i64 E, .int .i64 O, .int .i64 L, .int .u32 U, .int .i64 C, .string D]) (t := 29) ?hr ?_; (case hd => rfl); (case hg => rfl); (case hr => first | (go_simp; done) | (go_simp; rfl)); intro gb hg w2 hbox hb; have n0_ := Aside0.mk (below_step HB.out hb); have BK := Aside0.mk hbox; clear HB; have HB := n0_; clear n0_; clear hb hbox hg; obtain ⟨hz0, hz1, hz2, hz3, hz4, hz5, hz6, hz7, hz8, hz9, hz10⟩ := cells11 BK.out; have hzf := fun i_ => blk_frozen BK.out i_)
    | (go_at_call 34; (with_reducible refine (thresherref0_Num.calls F 3 _ _ HX.out).mono ?_); rintro e w' ⟨rfl, ⟨nd, rfl⟩⟩)
    | (go_at_call 34; (with_reducible refine (thresherref0_Num.calls 0 3 _ _ rfl).mono ?_); rintro e w' ⟨rfl, ⟨nd, rfl⟩⟩)
    | (go_at_call 35; (with_reducible refine (thresherref0_ID.calls J _ _ HJ.out).mono ?_); rintro e w' ⟨rfl, ⟨nd, rfl⟩⟩))
  go_ret
  exact ⟨by first | rfl | simp, by repeat (first | (with_reducible first | exact HB.out | refine pw_below_drewN ?_ _ | refine below_drew1 ?_ | refine below_set ?_ HGW.out) | exact HB.out)⟩
set_option maxHeartbeats 16000000 in
set_option maxRecDepth 100000 in
theorem mrWay2 (T : Int) (J S E O L U C : Int) (D : ByteArray) (w : World) (h : thresherref0_Num.f T 3 = some true) (hT : T ≠ 0) (hJ : thresherref0_ID.f J = some true) :
    Calls Try.prog 22 #[.agg #[.int .i64 2, .int .i64 0, .int .i64 T, .int .i64 J, .int .i64 S, .int .i64 E, .int .i64 O, .int .i64 L, .int .u32 U, .int .i64 C, .string D]] w fun e w' => e = .returned (.bool false) ∧ Below w.heap.size w w' := by
  have hu29 := Try.underlying29
  have HB := Aside0.mk (Below.refl w.heap.size w)
  have HX := Aside0.mk h
  clear h
  have HJ := Aside0.mk hJ
  clear hJ
  have hT1 : (T == 0) = false := beq_eq_false_iff_ne.mpr hT
  have hT2 : (T != 0) = true := bne_iff_ne.mpr hT
  clear hT
  go_enter Try.func22, Try.ntmps22
  go_wp2_with (first
    | ((with_reducible refine gate_dst (N := 1) rfl ?_); refine box_event ?hg (N := 1) ?hd (cs := #[.int .i64 2, .int .i64 0, .int .i64 T, .int .i64 J, .int .i64 S, .int .i64 E, .int .i64 O, .int .i64 L, .int .u32 U, .int .i64 C, .string D]) (t := 29) ?hr ?_; (case hd => rfl); (case hg => rfl); (case hr => first | (go_simp; done) | (go_simp; rfl)); intro gb hg w2 hbox hb; have n0_ := Aside0.mk (below_step HB.out hb); have BK := Aside0.mk hbox; clear HB; have HB := n0_; clear n0_; clear hb hbox hg; obtain ⟨hz0, hz1, hz2, hz3, hz4, hz5, hz6, hz7, hz8, hz9, hz10⟩ := cells11 BK.out; have hzf := fun i_ => blk_frozen BK.out i_)
    | (go_at_call 34; (with_reducible refine (thresherref0_Num.calls T 3 _ _ HX.out).mono ?_); rintro e w' ⟨rfl, ⟨nd, rfl⟩⟩)
    | (go_at_call 34; (with_reducible refine (thresherref0_Num.calls 0 3 _ _ rfl).mono ?_); rintro e w' ⟨rfl, ⟨nd, rfl⟩⟩)
    | (go_at_call 35; (with_reducible refine (thresherref0_ID.calls J _ _ HJ.out).mono ?_); rintro e w' ⟨rfl, ⟨nd, rfl⟩⟩))
  go_ret
  exact ⟨by first | rfl | simp, by repeat (first | (with_reducible first | exact HB.out | refine pw_below_drewN ?_ _ | refine below_drew1 ?_ | refine below_set ?_ HGW.out) | exact HB.out)⟩
set_option maxHeartbeats 16000000 in
set_option maxRecDepth 100000 in
theorem mrWay3 (F : Int) (J S E O L U C : Int) (D : ByteArray) (w : World) (h : thresherref0_Num.f F 3 = some true) (hF : F ≠ 0) (hJ : thresherref0_ID.f J = some true) :
    Calls Try.prog 22 #[.agg #[.int .i64 3, .int .i64 F, .int .i64 0, .int .i64 J, .int .i64 S, .int .i64 E, .int .i64 O, .int .i64 L, .int .u32 U, .int .i64 C, .string D]] w fun e w' => e = .returned (.bool false) ∧ Below w.heap.size w w' := by
  have hu29 := Try.underlying29
  have HB := Aside0.mk (Below.refl w.heap.size w)
  have HX := Aside0.mk h
  clear h
  have HJ := Aside0.mk hJ
  clear hJ
  have hF1 : (F == 0) = false := beq_eq_false_iff_ne.mpr hF
  have hF2 : (F != 0) = true := bne_iff_ne.mpr hF
  clear hF
  go_enter Try.func22, Try.ntmps22
  go_wp2_with (first
    | ((with_reducible refine gate_dst (N := 1) rfl ?_); refine box_event ?hg (N := 1) ?hd (cs := #[.int .i64 3, .int .i64 F, .int .i64 0, .int .i64 J, .int .i64 S, .int .i64 E, .int .i64 O, .int .i64 L, .int .u32 U, .int .i64 C, .string D]) (t := 29) ?hr ?_; (case hd => rfl); (case hg => rfl); (case hr => first | (go_simp; done) | (go_simp; rfl)); intro gb hg w2 hbox hb; have n0_ := Aside0.mk (below_step HB.out hb); have BK := Aside0.mk hbox; clear HB; have HB := n0_; clear n0_; clear hb hbox hg; obtain ⟨hz0, hz1, hz2, hz3, hz4, hz5, hz6, hz7, hz8, hz9, hz10⟩ := cells11 BK.out; have hzf := fun i_ => blk_frozen BK.out i_)
    | (go_at_call 34; (with_reducible refine (thresherref0_Num.calls F 3 _ _ HX.out).mono ?_); rintro e w' ⟨rfl, ⟨nd, rfl⟩⟩)
    | (go_at_call 34; (with_reducible refine (thresherref0_Num.calls 0 3 _ _ rfl).mono ?_); rintro e w' ⟨rfl, ⟨nd, rfl⟩⟩)
    | (go_at_call 35; (with_reducible refine (thresherref0_ID.calls J _ _ HJ.out).mono ?_); rintro e w' ⟨rfl, ⟨nd, rfl⟩⟩))
  go_ret
  exact ⟨by first | rfl | simp, by repeat (first | (with_reducible first | exact HB.out | refine pw_below_drewN ?_ _ | refine below_drew1 ?_ | refine below_set ?_ HGW.out) | exact HB.out)⟩
set_option maxHeartbeats 16000000 in
set_option maxRecDepth 100000 in
theorem mrWay4 (T : Int) (J S E O L U C : Int) (D : ByteArray) (w : World) (h : thresherref0_Num.f T 3 = some true) (hT : T ≠ 0) (hJ : thresherref0_ID.f J = some true) :
    Calls Try.prog 22 #[.agg #[.int .i64 4, .int .i64 0, .int .i64 T, .int .i64 J, .int .i64 S, .int .i64 E, .int .i64 O, .int .i64 L, .int .u32 U, .int .i64 C, .string D]] w fun e w' => e = .returned (.bool false) ∧ Below w.heap.size w w' := by
  have hu29 := Try.underlying29
  have HB := Aside0.mk (Below.refl w.heap.size w)
  have HX := Aside0.mk h
  clear h
  have HJ := Aside0.mk hJ
  clear hJ
  have hT1 : (T == 0) = false := beq_eq_false_iff_ne.mpr hT
  have hT2 : (T != 0) = true := bne_iff_ne.mpr hT
  clear hT
  go_enter Try.func22, Try.ntmps22
  go_wp2_with (first
    | ((with_reducible refine gate_dst (N := 1) rfl ?_); refine box_event ?hg (N := 1) ?hd (cs := #[.int .i64 4, .int .i64 0, .int .i64 T, .int .i64 J, .int .i64 S, .int .i64 E, .int .i64 O, .int .i64 L, .int .u32 U, .int .i64 C, .string D]) (t := 29) ?hr ?_; (case hd => rfl); (case hg => rfl); (case hr => first | (go_simp; done) | (go_simp; rfl)); intro gb hg w2 hbox hb; have n0_ := Aside0.mk (below_step HB.out hb); have BK := Aside0.mk hbox; clear HB; have HB := n0_; clear n0_; clear hb hbox hg; obtain ⟨hz0, hz1, hz2, hz3, hz4, hz5, hz6, hz7, hz8, hz9, hz10⟩ := cells11 BK.out; have hzf := fun i_ => blk_frozen BK.out i_)
    | (go_at_call 34; (with_reducible refine (thresherref0_Num.calls T 3 _ _ HX.out).mono ?_); rintro e w' ⟨rfl, ⟨nd, rfl⟩⟩)
    | (go_at_call 34; (with_reducible refine (thresherref0_Num.calls 0 3 _ _ rfl).mono ?_); rintro e w' ⟨rfl, ⟨nd, rfl⟩⟩)
    | (go_at_call 35; (with_reducible refine (thresherref0_ID.calls J _ _ HJ.out).mono ?_); rintro e w' ⟨rfl, ⟨nd, rfl⟩⟩))
  go_ret
  exact ⟨by first | rfl | simp, by repeat (first | (with_reducible first | exact HB.out | refine pw_below_drewN ?_ _ | refine below_drew1 ?_ | refine below_set ?_ HGW.out) | exact HB.out)⟩
set_option maxHeartbeats 16000000 in
set_option maxRecDepth 100000 in
theorem mrWay5 (F : Int) (J S E O L U C : Int) (D : ByteArray) (w : World) (h : thresherref0_Num.f F 3 = some true) (hF : F ≠ 0) (hJ : thresherref0_ID.f J = some true) :
    Calls Try.prog 22 #[.agg #[.int .i64 5, .int .i64 F, .int .i64 0, .int .i64 J, .int .i64 S, .int .i64 E, .int .i64 O, .int .i64 L, .int .u32 U, .int .i64 C, .string D]] w fun e w' => e = .returned (.bool false) ∧ Below w.heap.size w w' := by
  have hu29 := Try.underlying29
  have HB := Aside0.mk (Below.refl w.heap.size w)
  have HX := Aside0.mk h
  clear h
  have HJ := Aside0.mk hJ
  clear hJ
  have hF1 : (F == 0) = false := beq_eq_false_iff_ne.mpr hF
  have hF2 : (F != 0) = true := bne_iff_ne.mpr hF
  clear hF
  go_enter Try.func22, Try.ntmps22
  go_wp2_with (first
    | ((with_reducible refine gate_dst (N := 1) rfl ?_); refine box_event ?hg (N := 1) ?hd (cs := #[.int .i64 5, .int .i64 F, .int .i64 0, .int .i64 J, .int .i64 S, .int .i64 E, .int .i64 O, .int .i64 L, .int .u32 U, .int .i64 C, .string D]) (t := 29) ?hr ?_; (case hd => rfl); (case hg => rfl); (case hr => first | (go_simp; done) | (go_simp; rfl)); intro gb hg w2 hbox hb; have n0_ := Aside0.mk (below_step HB.out hb); have BK := Aside0.mk hbox; clear HB; have HB := n0_; clear n0_; clear hb hbox hg; obtain ⟨hz0, hz1, hz2, hz3, hz4, hz5, hz6, hz7, hz8, hz9, hz10⟩ := cells11 BK.out; have hzf := fun i_ => blk_frozen BK.out i_)
    | (go_at_call 34; (with_reducible refine (thresherref0_Num.calls F 3 _ _ HX.out).mono ?_); rintro e w' ⟨rfl, ⟨nd, rfl⟩⟩)
    | (go_at_call 34; (with_reducible refine (thresherref0_Num.calls 0 3 _ _ rfl).mono ?_); rintro e w' ⟨rfl, ⟨nd, rfl⟩⟩)
    | (go_at_call 35; (with_reducible refine (thresherref0_ID.calls J _ _ HJ.out).mono ?_); rintro e w' ⟨rfl, ⟨nd, rfl⟩⟩))
  go_ret
  exact ⟨by first | rfl | simp, by repeat (first | (with_reducible first | exact HB.out | refine pw_below_drewN ?_ _ | refine below_drew1 ?_ | refine below_set ?_ HGW.out) | exact HB.out)⟩
set_option maxHeartbeats 16000000 in
set_option maxRecDepth 100000 in
theorem mrWay6 (T : Int) (J S E O L U C : Int) (D : ByteArray) (w : World) (h : thresherref0_Num.f T 3 = some true) (hT : T ≠ 0) (hJ : thresherref0_ID.f J = some true) :
    Calls Try.prog 22 #[.agg #[.int .i64 6, .int .i64 0, .int .i64 T, .int .i64 J, .int .i64 S, .int .i64 E, .int .i64 O, .int .i64 L, .int .u32 U, .int .i64 C, .string D]] w fun e w' => e = .returned (.bool false) ∧ Below w.heap.size w w' := by
  have hu29 := Try.underlying29
  have HB := Aside0.mk (Below.refl w.heap.size w)
  have HX := Aside0.mk h
  clear h
  have HJ := Aside0.mk hJ
  clear hJ
  have hT1 : (T == 0) = false := beq_eq_false_iff_ne.mpr hT
  have hT2 : (T != 0) = true := bne_iff_ne.mpr hT
  clear hT
  go_enter Try.func22, Try.ntmps22
  go_wp2_with (first
    | ((with_reducible refine gate_dst (N := 1) rfl ?_); refine box_event ?hg (N := 1) ?hd (cs := #[.int .i64 6, .int .i64 0, .int .i64 T, .int .i64 J, .int .i64 S, .int .i64 E, .int .i64 O, .int .i64 L, .int .u32 U, .int .i64 C, .string D]) (t := 29) ?hr ?_; (case hd => rfl); (case hg => rfl); (case hr => first | (go_simp; done) | (go_simp; rfl)); intro gb hg w2 hbox hb; have n0_ := Aside0.mk (below_step HB.out hb); have BK := Aside0.mk hbox; clear HB; have HB := n0_; clear n0_; clear hb hbox hg; obtain ⟨hz0, hz1, hz2, hz3, hz4, hz5, hz6, hz7, hz8, hz9, hz10⟩ := cells11 BK.out; have hzf := fun i_ => blk_frozen BK.out i_)
    | (go_at_call 34; (with_reducible refine (thresherref0_Num.calls T 3 _ _ HX.out).mono ?_); rintro e w' ⟨rfl, ⟨nd, rfl⟩⟩)
    | (go_at_call 34; (with_reducible refine (thresherref0_Num.calls 0 3 _ _ rfl).mono ?_); rintro e w' ⟨rfl, ⟨nd, rfl⟩⟩)
    | (go_at_call 35; (with_reducible refine (thresherref0_ID.calls J _ _ HJ.out).mono ?_); rintro e w' ⟨rfl, ⟨nd, rfl⟩⟩))
  go_ret
  exact ⟨by first | rfl | simp, by repeat (first | (with_reducible first | exact HB.out | refine pw_below_drewN ?_ _ | refine below_drew1 ?_ | refine below_set ?_ HGW.out) | exact HB.out)⟩
set_option maxHeartbeats 16000000 in
set_option maxRecDepth 100000 in
theorem mrWay7 (F : Int) (J S E O L U C : Int) (D : ByteArray) (w : World) (h : thresherref0_Num.f F 3 = some true) (hF : F ≠ 0) (hJ : thresherref0_ID.f J = some true) :
    Calls Try.prog 22 #[.agg #[.int .i64 7, .int .i64 F, .int .i64 0, .int .i64 J, .int .i64 S, .int .i64 E, .int .i64 O, .int .i64 L, .int .u32 U, .int .i64 C, .string D]] w fun e w' => e = .returned (.bool false) ∧ Below w.heap.size w w' := by
  have hu29 := Try.underlying29
  have HB := Aside0.mk (Below.refl w.heap.size w)
  have HX := Aside0.mk h
  clear h
  have HJ := Aside0.mk hJ
  clear hJ
  have hF1 : (F == 0) = false := beq_eq_false_iff_ne.mpr hF
  have hF2 : (F != 0) = true := bne_iff_ne.mpr hF
  clear hF
  go_enter Try.func22, Try.ntmps22
  go_wp2_with (first
    | ((with_reducible refine gate_dst (N := 1) rfl ?_); refine box_event ?hg (N := 1) ?hd (cs := #[.int .i64 7, .int .i64 F, .int .i64 0, .int .i64 J, .int .i64 S, .int .i64 E, .int .i64 O, .int .i64 L, .int .u32 U, .int .i64 C, .string D]) (t := 29) ?hr ?_; (case hd => rfl); (case hg => rfl); (case hr => first | (go_simp; done) | (go_simp; rfl)); intro gb hg w2 hbox hb; have n0_ := Aside0.mk (below_step HB.out hb); have BK := Aside0.mk hbox; clear HB; have HB := n0_; clear n0_; clear hb hbox hg; obtain ⟨hz0, hz1, hz2, hz3, hz4, hz5, hz6, hz7, hz8, hz9, hz10⟩ := cells11 BK.out; have hzf := fun i_ => blk_frozen BK.out i_)
    | (go_at_call 34; (with_reducible refine (thresherref0_Num.calls F 3 _ _ HX.out).mono ?_); rintro e w' ⟨rfl, ⟨nd, rfl⟩⟩)
    | (go_at_call 34; (with_reducible refine (thresherref0_Num.calls 0 3 _ _ rfl).mono ?_); rintro e w' ⟨rfl, ⟨nd, rfl⟩⟩)
    | (go_at_call 35; (with_reducible refine (thresherref0_ID.calls J _ _ HJ.out).mono ?_); rintro e w' ⟨rfl, ⟨nd, rfl⟩⟩))
  go_ret
  exact ⟨by first | rfl | simp, by repeat (first | (with_reducible first | exact HB.out | refine pw_below_drewN ?_ _ | refine below_drew1 ?_ | refine below_set ?_ HGW.out) | exact HB.out)⟩
set_option maxHeartbeats 16000000 in
set_option maxRecDepth 100000 in
theorem mrWay8 (T : Int) (J S E O L U C : Int) (D : ByteArray) (w : World) (h : thresherref0_Num.f T 3 = some true) (hT : T ≠ 0) (hJ : thresherref0_ID.f J = some true) :
    Calls Try.prog 22 #[.agg #[.int .i64 8, .int .i64 0, .int .i64 T, .int .i64 J, .int .i64 S, .int .i64 E, .int .i64 O, .int .i64 L, .int .u32 U, .int .i64 C, .string D]] w fun e w' => e = .returned (.bool false) ∧ Below w.heap.size w w' := by
  have hu29 := Try.underlying29
  have HB := Aside0.mk (Below.refl w.heap.size w)
  have HX := Aside0.mk h
  clear h
  have HJ := Aside0.mk hJ
  clear hJ
  have hT1 : (T == 0) = false := beq_eq_false_iff_ne.mpr hT
  have hT2 : (T != 0) = true := bne_iff_ne.mpr hT
  clear hT
  go_enter Try.func22, Try.ntmps22
  go_wp2_with (first
    | ((with_reducible refine gate_dst (N := 1) rfl ?_); refine box_event ?hg (N := 1) ?hd (cs := #[.int .i64 8, .int .i64 0, .int .i64 T, .int .i64 J, .int .i64 S, .int .i64 E, .int .i64 O, .int .i64 L, .int .u32 U, .int .i64 C, .string D]) (t := 29) ?hr ?_; (case hd => rfl); (case hg => rfl); (case hr => first | (go_simp; done) | (go_simp; rfl)); intro gb hg w2 hbox hb; have n0_ := Aside0.mk (below_step HB.out hb); have BK := Aside0.mk hbox; clear HB; have HB := n0_; clear n0_; clear hb hbox hg; obtain ⟨hz0, hz1, hz2, hz3, hz4, hz5, hz6, hz7, hz8, hz9, hz10⟩ := cells11 BK.out; have hzf := fun i_ => blk_frozen BK.out i_)
    | (go_at_call 34; (with_reducible refine (thresherref0_Num.calls T 3 _ _ HX.out).mono ?_); rintro e w' ⟨rfl, ⟨nd, rfl⟩⟩)
    | (go_at_call 34; (with_reducible refine (thresherref0_Num.calls 0 3 _ _ rfl).mono ?_); rintro e w' ⟨rfl, ⟨nd, rfl⟩⟩)
    | (go_at_call 35; (with_reducible refine (thresherref0_ID.calls J _ _ HJ.out).mono ?_); rintro e w' ⟨rfl, ⟨nd, rfl⟩⟩))
  go_ret
  exact ⟨by first | rfl | simp, by repeat (first | (with_reducible first | exact HB.out | refine pw_below_drewN ?_ _ | refine below_drew1 ?_ | refine below_set ?_ HGW.out) | exact HB.out)⟩
set_option maxHeartbeats 16000000 in
set_option maxRecDepth 100000 in
theorem mrGood10 (T : Int) (J S E O L U C : Int) (D : ByteArray) (w : World) (h : thresherref0_Num.f T 3 = some true) (hT : T ≠ 0) (hJ : thresherref0_ID.f J = some true) (H : thresherref0_ID.f S = some false) :
    Calls Try.prog 22 #[.agg #[.int .i64 1, .int .i64 0, .int .i64 T, .int .i64 J, .int .i64 S, .int .i64 E, .int .i64 O, .int .i64 L, .int .u32 U, .int .i64 C, .string D]] w fun e w' => e = .returned (.bool false) ∧ Below w.heap.size w w' := by
  have hu29 := Try.underlying29
  have HB := Aside0.mk (Below.refl w.heap.size w)
  have HX := Aside0.mk h
  clear h
  have HJ := Aside0.mk hJ
  clear hJ
  have hT1 : (T == 0) = false := beq_eq_false_iff_ne.mpr hT
  have hT2 : (T != 0) = true := bne_iff_ne.mpr hT
  clear hT
  have h1 := H
  clear H
  have HS := Aside0.mk h1
  clear h1
  go_enter Try.func22, Try.ntmps22
  go_wp2_with (first
    | ((with_reducible refine gate_dst (N := 1) rfl ?_); refine box_event ?hg (N := 1) ?hd (cs := #[.int .i64 1, .int .i64 0, .int .i64 T, .int .i64 J, .int .i64 S, .int .i64 E, .int .i64 O, .int .i64 L, .int .u32 U, .int .i64 C, .string D]) (t := 29) ?hr ?_; (case hd => rfl); (case hg => rfl); (case hr => first | (go_simp; done) | (go_simp; rfl)); intro gb hg w2 hbox hb; have n0_ := Aside0.mk (below_step HB.out hb); have BK := Aside0.mk hbox; clear HB; have HB := n0_; clear n0_; clear hb hbox hg; obtain ⟨hz0, hz1, hz2, hz3, hz4, hz5, hz6, hz7, hz8, hz9, hz10⟩ := cells11 BK.out; have hzf := fun i_ => blk_frozen BK.out i_)
    | ((with_reducible refine gate_dst (N := 4) rfl ?_); refine box_event ?hg (N := 4) ?hd (cs := #[.int .i64 0, .int .i64 0, .int .i64 0, .int .i64 0, .int .i64 0, .int .i64 0, .int .i64 0, .int .i64 0, .int .u32 0, .int .i64 0, .string (⟨#[]⟩ : ByteArray)]) (t := 29) ?hr ?_; (case hd => rfl); (case hg => rfl); (case hr => first | (go_simp; done) | (go_simp; rfl)); intro gw hg w5 hbox hb; have BW := Aside0.mk hbox; have HBA := Aside0.mk hb; have HGA := Aside0.mk (Nat.le_of_eq hg.symm); have nbw : gb ≠ gw := (by rw [hg]; exact Nat.ne_of_lt (blk_lt (by repeat (first | exact BK.out | refine blk_drewN ?_ _)))); have nwb : gw ≠ gb := Ne.symm nbw; have HGW : Aside0 (w.heap.size ≤ gw) := (⟨by rw [hg]; exact below_size (show Below w.heap.size w _ from by repeat (first | exact HB.out | refine pw_below_drewN ?_ _))⟩); clear hb hbox hg)
    | ((with_reducible refine gate_store (t := 29) (p := 4) rfl ?_); refine store_whole 29 4 _ rfl rfl rfl gw [.int .i64 1, .int .i64 0, .int .i64 T, .int .i64 J, .int .i64 0, .int .i64 0, .int .i64 0, .int .i64 0, .int .u32 0, .int .i64 0, .string (⟨#[]⟩ : ByteArray)] BW.out rfl rfl rfl mrInfo rfl (by simp [Value.oneCell']) HBA.out HGA.out ?_; intro w6 hbw hB6; have n0_ := Aside0.mk (blk_below (by repeat (first | exact BK.out | refine blk_drewN ?_ _)) hB6); have n1_ := Aside0.mk (below_step (show Below w.heap.size w _ from by repeat (first | exact HB.out | refine pw_below_drewN ?_ _)) hB6); clear BK HB BW HBA HGA hz0 hz1 hz2 hz3 hz4 hz5 hz6 hz7 hz8 hz9 hz10 hzf; have BK := n0_; have HB := n1_; have BW := Aside0.mk hbw; clear n0_ n1_ hB6 hbw; obtain ⟨hz0, hz1, hz2, hz3, hz4, hz5, hz6, hz7, hz8, hz9, hz10⟩ := cells11 BK.out; obtain ⟨hw0, hw1, hw2, hw3, hw4, hw5, hw6, hw7, hw8, hw9, hw10⟩ := cells11 BW.out; have hwf := fun i_ => blk_frozen BW.out i_)
    | (go_at_call 34; (with_reducible refine (thresherref0_Num.calls T 3 _ _ HX.out).mono ?_); rintro e w' ⟨rfl, ⟨nd, rfl⟩⟩)
    | (go_at_call 34; (with_reducible refine (thresherref0_Num.calls 0 3 _ _ rfl).mono ?_); rintro e w' ⟨rfl, ⟨nd, rfl⟩⟩)
    | (go_at_call 35; (with_reducible refine (thresherref0_ID.calls J _ _ HJ.out).mono ?_); rintro e w' ⟨rfl, ⟨nd, rfl⟩⟩)
    | (go_at_call 35; (with_reducible refine (thresherref0_ID.calls S _ _ HS.out).mono ?_); rintro e w' ⟨rfl, ⟨nd, rfl⟩⟩))
  go_ret
  exact ⟨by first | rfl | simp, by repeat (first | (with_reducible first | exact HB.out | refine pw_below_drewN ?_ _ | refine below_drew1 ?_ | refine below_set ?_ HGW.out) | exact HB.out)⟩
set_option maxHeartbeats 16000000 in
set_option maxRecDepth 100000 in
theorem mrGood11 (T : Int) (J S E O L U C : Int) (D : ByteArray) (w : World) (h : thresherref0_Num.f T 3 = some true) (hT : T ≠ 0) (hJ : thresherref0_ID.f J = some true) (H : thresherref0_ID.f S = some true ∧ E < 1) :
    Calls Try.prog 22 #[.agg #[.int .i64 1, .int .i64 0, .int .i64 T, .int .i64 J, .int .i64 S, .int .i64 E, .int .i64 O, .int .i64 L, .int .u32 U, .int .i64 C, .string D]] w fun e w' => e = .returned (.bool false) ∧ Below w.heap.size w w' := by
  have hu29 := Try.underlying29
  have HB := Aside0.mk (Below.refl w.heap.size w)
  have HX := Aside0.mk h
  clear h
  have HJ := Aside0.mk hJ
  clear hJ
  have hT1 : (T == 0) = false := beq_eq_false_iff_ne.mpr hT
  have hT2 : (T != 0) = true := bne_iff_ne.mpr hT
  clear hT
  obtain ⟨h1, h2⟩ := H
  have HS := Aside0.mk h1
  have q1 : decide (E < 1) = true := decide_eq_true h2
  clear h1 h2
  go_enter Try.func22, Try.ntmps22
  go_wp2_with (first
    | ((with_reducible refine gate_dst (N := 1) rfl ?_); refine box_event ?hg (N := 1) ?hd (cs := #[.int .i64 1, .int .i64 0, .int .i64 T, .int .i64 J, .int .i64 S, .int .i64 E, .int .i64 O, .int .i64 L, .int .u32 U, .int .i64 C, .string D]) (t := 29) ?hr ?_; (case hd => rfl); (case hg => rfl); (case hr => first | (go_simp; done) | (go_simp; rfl)); intro gb hg w2 hbox hb; have n0_ := Aside0.mk (below_step HB.out hb); have BK := Aside0.mk hbox; clear HB; have HB := n0_; clear n0_; clear hb hbox hg; obtain ⟨hz0, hz1, hz2, hz3, hz4, hz5, hz6, hz7, hz8, hz9, hz10⟩ := cells11 BK.out; have hzf := fun i_ => blk_frozen BK.out i_)
    | ((with_reducible refine gate_dst (N := 4) rfl ?_); refine box_event ?hg (N := 4) ?hd (cs := #[.int .i64 0, .int .i64 0, .int .i64 0, .int .i64 0, .int .i64 0, .int .i64 0, .int .i64 0, .int .i64 0, .int .u32 0, .int .i64 0, .string (⟨#[]⟩ : ByteArray)]) (t := 29) ?hr ?_; (case hd => rfl); (case hg => rfl); (case hr => first | (go_simp; done) | (go_simp; rfl)); intro gw hg w5 hbox hb; have BW := Aside0.mk hbox; have HBA := Aside0.mk hb; have HGA := Aside0.mk (Nat.le_of_eq hg.symm); have nbw : gb ≠ gw := (by rw [hg]; exact Nat.ne_of_lt (blk_lt (by repeat (first | exact BK.out | refine blk_drewN ?_ _)))); have nwb : gw ≠ gb := Ne.symm nbw; have HGW : Aside0 (w.heap.size ≤ gw) := (⟨by rw [hg]; exact below_size (show Below w.heap.size w _ from by repeat (first | exact HB.out | refine pw_below_drewN ?_ _))⟩); clear hb hbox hg)
    | ((with_reducible refine gate_store (t := 29) (p := 4) rfl ?_); refine store_whole 29 4 _ rfl rfl rfl gw [.int .i64 1, .int .i64 0, .int .i64 T, .int .i64 J, .int .i64 0, .int .i64 0, .int .i64 0, .int .i64 0, .int .u32 0, .int .i64 0, .string (⟨#[]⟩ : ByteArray)] BW.out rfl rfl rfl mrInfo rfl (by simp [Value.oneCell']) HBA.out HGA.out ?_; intro w6 hbw hB6; have n0_ := Aside0.mk (blk_below (by repeat (first | exact BK.out | refine blk_drewN ?_ _)) hB6); have n1_ := Aside0.mk (below_step (show Below w.heap.size w _ from by repeat (first | exact HB.out | refine pw_below_drewN ?_ _)) hB6); clear BK HB BW HBA HGA hz0 hz1 hz2 hz3 hz4 hz5 hz6 hz7 hz8 hz9 hz10 hzf; have BK := n0_; have HB := n1_; have BW := Aside0.mk hbw; clear n0_ n1_ hB6 hbw; obtain ⟨hz0, hz1, hz2, hz3, hz4, hz5, hz6, hz7, hz8, hz9, hz10⟩ := cells11 BK.out; obtain ⟨hw0, hw1, hw2, hw3, hw4, hw5, hw6, hw7, hw8, hw9, hw10⟩ := cells11 BW.out; have hwf := fun i_ => blk_frozen BW.out i_)
    | (go_at_call 34; (with_reducible refine (thresherref0_Num.calls T 3 _ _ HX.out).mono ?_); rintro e w' ⟨rfl, ⟨nd, rfl⟩⟩)
    | (go_at_call 34; (with_reducible refine (thresherref0_Num.calls 0 3 _ _ rfl).mono ?_); rintro e w' ⟨rfl, ⟨nd, rfl⟩⟩)
    | (go_at_call 35; (with_reducible refine (thresherref0_ID.calls J _ _ HJ.out).mono ?_); rintro e w' ⟨rfl, ⟨nd, rfl⟩⟩)
    | (go_at_call 35; (with_reducible refine (thresherref0_ID.calls S _ _ HS.out).mono ?_); rintro e w' ⟨rfl, ⟨nd, rfl⟩⟩))
  go_ret
  exact ⟨by first | rfl | simp, by repeat (first | (with_reducible first | exact HB.out | refine pw_below_drewN ?_ _ | refine below_drew1 ?_ | refine below_set ?_ HGW.out) | exact HB.out)⟩
set_option maxHeartbeats 16000000 in
set_option maxRecDepth 100000 in
theorem mrGood12 (T : Int) (J S E O L U C : Int) (D : ByteArray) (w : World) (h : thresherref0_Num.f T 3 = some true) (hT : T ≠ 0) (hJ : thresherref0_ID.f J = some true) (H : thresherref0_ID.f S = some true ∧ 1048576 < E) :
    Calls Try.prog 22 #[.agg #[.int .i64 1, .int .i64 0, .int .i64 T, .int .i64 J, .int .i64 S, .int .i64 E, .int .i64 O, .int .i64 L, .int .u32 U, .int .i64 C, .string D]] w fun e w' => e = .returned (.bool false) ∧ Below w.heap.size w w' := by
  have hu29 := Try.underlying29
  have HB := Aside0.mk (Below.refl w.heap.size w)
  have HX := Aside0.mk h
  clear h
  have HJ := Aside0.mk hJ
  clear hJ
  have hT1 : (T == 0) = false := beq_eq_false_iff_ne.mpr hT
  have hT2 : (T != 0) = true := bne_iff_ne.mpr hT
  clear hT
  obtain ⟨h1, h2⟩ := H
  have HS := Aside0.mk h1
  have q1 : decide (E < 1) = false := decide_eq_false (by omega)
  have q2 : decide (1048576 < E) = true := decide_eq_true h2
  have q3 : decide (E > 1048576) = true := decide_eq_true h2
  clear h1 h2
  go_enter Try.func22, Try.ntmps22
  go_wp2_with (first
    | ((with_reducible refine gate_dst (N := 1) rfl ?_); refine box_event ?hg (N := 1) ?hd (cs := #[.int .i64 1, .int .i64 0, .int .i64 T, .int .i64 J, .int .i64 S, .int .i64 E, .int .i64 O, .int .i64 L, .int .u32 U, .int .i64 C, .string D]) (t := 29) ?hr ?_; (case hd => rfl); (case hg => rfl); (case hr => first | (go_simp; done) | (go_simp; rfl)); intro gb hg w2 hbox hb; have n0_ := Aside0.mk (below_step HB.out hb); have BK := Aside0.mk hbox; clear HB; have HB := n0_; clear n0_; clear hb hbox hg; obtain ⟨hz0, hz1, hz2, hz3, hz4, hz5, hz6, hz7, hz8, hz9, hz10⟩ := cells11 BK.out; have hzf := fun i_ => blk_frozen BK.out i_)
    | ((with_reducible refine gate_dst (N := 4) rfl ?_); refine box_event ?hg (N := 4) ?hd (cs := #[.int .i64 0, .int .i64 0, .int .i64 0, .int .i64 0, .int .i64 0, .int .i64 0, .int .i64 0, .int .i64 0, .int .u32 0, .int .i64 0, .string (⟨#[]⟩ : ByteArray)]) (t := 29) ?hr ?_; (case hd => rfl); (case hg => rfl); (case hr => first | (go_simp; done) | (go_simp; rfl)); intro gw hg w5 hbox hb; have BW := Aside0.mk hbox; have HBA := Aside0.mk hb; have HGA := Aside0.mk (Nat.le_of_eq hg.symm); have nbw : gb ≠ gw := (by rw [hg]; exact Nat.ne_of_lt (blk_lt (by repeat (first | exact BK.out | refine blk_drewN ?_ _)))); have nwb : gw ≠ gb := Ne.symm nbw; have HGW : Aside0 (w.heap.size ≤ gw) := (⟨by rw [hg]; exact below_size (show Below w.heap.size w _ from by repeat (first | exact HB.out | refine pw_below_drewN ?_ _))⟩); clear hb hbox hg)
    | ((with_reducible refine gate_store (t := 29) (p := 4) rfl ?_); refine store_whole 29 4 _ rfl rfl rfl gw [.int .i64 1, .int .i64 0, .int .i64 T, .int .i64 J, .int .i64 0, .int .i64 0, .int .i64 0, .int .i64 0, .int .u32 0, .int .i64 0, .string (⟨#[]⟩ : ByteArray)] BW.out rfl rfl rfl mrInfo rfl (by simp [Value.oneCell']) HBA.out HGA.out ?_; intro w6 hbw hB6; have n0_ := Aside0.mk (blk_below (by repeat (first | exact BK.out | refine blk_drewN ?_ _)) hB6); have n1_ := Aside0.mk (below_step (show Below w.heap.size w _ from by repeat (first | exact HB.out | refine pw_below_drewN ?_ _)) hB6); clear BK HB BW HBA HGA hz0 hz1 hz2 hz3 hz4 hz5 hz6 hz7 hz8 hz9 hz10 hzf; have BK := n0_; have HB := n1_; have BW := Aside0.mk hbw; clear n0_ n1_ hB6 hbw; obtain ⟨hz0, hz1, hz2, hz3, hz4, hz5, hz6, hz7, hz8, hz9, hz10⟩ := cells11 BK.out; obtain ⟨hw0, hw1, hw2, hw3, hw4, hw5, hw6, hw7, hw8, hw9, hw10⟩ := cells11 BW.out; have hwf := fun i_ => blk_frozen BW.out i_)
    | (go_at_call 34; (with_reducible refine (thresherref0_Num.calls T 3 _ _ HX.out).mono ?_); rintro e w' ⟨rfl, ⟨nd, rfl⟩⟩)
    | (go_at_call 34; (with_reducible refine (thresherref0_Num.calls 0 3 _ _ rfl).mono ?_); rintro e w' ⟨rfl, ⟨nd, rfl⟩⟩)
    | (go_at_call 35; (with_reducible refine (thresherref0_ID.calls J _ _ HJ.out).mono ?_); rintro e w' ⟨rfl, ⟨nd, rfl⟩⟩)
    | (go_at_call 35; (with_reducible refine (thresherref0_ID.calls S _ _ HS.out).mono ?_); rintro e w' ⟨rfl, ⟨nd, rfl⟩⟩))
  go_ret
  exact ⟨by first | rfl | simp, by repeat (first | (with_reducible first | exact HB.out | refine pw_below_drewN ?_ _ | refine below_drew1 ?_ | refine below_set ?_ HGW.out) | exact HB.out)⟩
set_option maxHeartbeats 16000000 in
set_option maxRecDepth 100000 in
theorem mrGood13 (T : Int) (J S E O L U C : Int) (D : ByteArray) (w : World) (h : thresherref0_Num.f T 3 = some true) (hT : T ≠ 0) (hJ : thresherref0_ID.f J = some true) (H : thresherref0_ID.f S = some true ∧ (1 ≤ E ∧ E ≤ 1048576) ∧ 1024 < D.size) :
    Calls Try.prog 22 #[.agg #[.int .i64 1, .int .i64 0, .int .i64 T, .int .i64 J, .int .i64 S, .int .i64 E, .int .i64 O, .int .i64 L, .int .u32 U, .int .i64 C, .string D]] w fun e w' => e = .returned (.bool false) ∧ Below w.heap.size w w' := by
  have hu29 := Try.underlying29
  have HB := Aside0.mk (Below.refl w.heap.size w)
  have HX := Aside0.mk h
  clear h
  have HJ := Aside0.mk hJ
  clear hJ
  have hT1 : (T == 0) = false := beq_eq_false_iff_ne.mpr hT
  have hT2 : (T != 0) = true := bne_iff_ne.mpr hT
  clear hT
  obtain ⟨h1, h2, h3⟩ := H
  have HS := Aside0.mk h1
  have q1 : decide (E < 1) = false := decide_eq_false (by omega)
  have q2 : decide (1048576 < E) = false := decide_eq_false (by omega)
  have q3 : decide (E > 1048576) = false := decide_eq_false (by omega)
  clear h1 h2
  have q4 : decide ((D.size : Int) > 1024) = true := decide_eq_true (by omega)
  have q5 : decide (1024 < (D.size : Int)) = true := decide_eq_true (by omega)
  clear h3
  go_enter Try.func22, Try.ntmps22
  go_wp2_with (first
    | ((with_reducible refine gate_dst (N := 1) rfl ?_); refine box_event ?hg (N := 1) ?hd (cs := #[.int .i64 1, .int .i64 0, .int .i64 T, .int .i64 J, .int .i64 S, .int .i64 E, .int .i64 O, .int .i64 L, .int .u32 U, .int .i64 C, .string D]) (t := 29) ?hr ?_; (case hd => rfl); (case hg => rfl); (case hr => first | (go_simp; done) | (go_simp; rfl)); intro gb hg w2 hbox hb; have n0_ := Aside0.mk (below_step HB.out hb); have BK := Aside0.mk hbox; clear HB; have HB := n0_; clear n0_; clear hb hbox hg; obtain ⟨hz0, hz1, hz2, hz3, hz4, hz5, hz6, hz7, hz8, hz9, hz10⟩ := cells11 BK.out; have hzf := fun i_ => blk_frozen BK.out i_)
    | ((with_reducible refine gate_dst (N := 4) rfl ?_); refine box_event ?hg (N := 4) ?hd (cs := #[.int .i64 0, .int .i64 0, .int .i64 0, .int .i64 0, .int .i64 0, .int .i64 0, .int .i64 0, .int .i64 0, .int .u32 0, .int .i64 0, .string (⟨#[]⟩ : ByteArray)]) (t := 29) ?hr ?_; (case hd => rfl); (case hg => rfl); (case hr => first | (go_simp; done) | (go_simp; rfl)); intro gw hg w5 hbox hb; have BW := Aside0.mk hbox; have HBA := Aside0.mk hb; have HGA := Aside0.mk (Nat.le_of_eq hg.symm); have nbw : gb ≠ gw := (by rw [hg]; exact Nat.ne_of_lt (blk_lt (by repeat (first | exact BK.out | refine blk_drewN ?_ _)))); have nwb : gw ≠ gb := Ne.symm nbw; have HGW : Aside0 (w.heap.size ≤ gw) := (⟨by rw [hg]; exact below_size (show Below w.heap.size w _ from by repeat (first | exact HB.out | refine pw_below_drewN ?_ _))⟩); clear hb hbox hg)
    | ((with_reducible refine gate_store (t := 29) (p := 4) rfl ?_); refine store_whole 29 4 _ rfl rfl rfl gw [.int .i64 1, .int .i64 0, .int .i64 T, .int .i64 J, .int .i64 0, .int .i64 0, .int .i64 0, .int .i64 0, .int .u32 0, .int .i64 0, .string (⟨#[]⟩ : ByteArray)] BW.out rfl rfl rfl mrInfo rfl (by simp [Value.oneCell']) HBA.out HGA.out ?_; intro w6 hbw hB6; have n0_ := Aside0.mk (blk_below (by repeat (first | exact BK.out | refine blk_drewN ?_ _)) hB6); have n1_ := Aside0.mk (below_step (show Below w.heap.size w _ from by repeat (first | exact HB.out | refine pw_below_drewN ?_ _)) hB6); clear BK HB BW HBA HGA hz0 hz1 hz2 hz3 hz4 hz5 hz6 hz7 hz8 hz9 hz10 hzf; have BK := n0_; have HB := n1_; have BW := Aside0.mk hbw; clear n0_ n1_ hB6 hbw; obtain ⟨hz0, hz1, hz2, hz3, hz4, hz5, hz6, hz7, hz8, hz9, hz10⟩ := cells11 BK.out; obtain ⟨hw0, hw1, hw2, hw3, hw4, hw5, hw6, hw7, hw8, hw9, hw10⟩ := cells11 BW.out; have hwf := fun i_ => blk_frozen BW.out i_)
    | (go_at_call 34; (with_reducible refine (thresherref0_Num.calls T 3 _ _ HX.out).mono ?_); rintro e w' ⟨rfl, ⟨nd, rfl⟩⟩)
    | (go_at_call 34; (with_reducible refine (thresherref0_Num.calls 0 3 _ _ rfl).mono ?_); rintro e w' ⟨rfl, ⟨nd, rfl⟩⟩)
    | (go_at_call 35; (with_reducible refine (thresherref0_ID.calls J _ _ HJ.out).mono ?_); rintro e w' ⟨rfl, ⟨nd, rfl⟩⟩)
    | (go_at_call 35; (with_reducible refine (thresherref0_ID.calls S _ _ HS.out).mono ?_); rintro e w' ⟨rfl, ⟨nd, rfl⟩⟩))
  go_region_held3 (fun w' => w'.cell? ⟨gb, 4, none⟩ = some (.int .i64 S) ∧ w'.cell? ⟨gb, 5, none⟩ = some (.int .i64 E)) (first | go_keep | exact ⟨by simp [*], by simp [*]⟩) (fail)
  have m0 := Aside0.mk (blk_far (p := ⟨gw, 5, none⟩) (blk_far (p := ⟨gw, 4, none⟩) (blk_drewN BK.out (nd + 1)) nbw (.int .i64 S)) nbw (.int .i64 E))
  have m1 : Aside0 ((((w6.drewN (nd + 1)).setCell ⟨gw, 4, none⟩ (.int .i64 S)).setCell ⟨gw, 5, none⟩ (.int .i64 E)).heap[gw]? = some (.cells #[.int .i64 1, .int .i64 0, .int .i64 T, .int .i64 J, .int .i64 S, .int .i64 E, .int .i64 0, .int .i64 0, .int .u32 0, .int .i64 0, .string (⟨#[]⟩ : ByteArray)] 29 (0, 0))) := ⟨blk_put (blk_put (blk_drewN BW.out _) 4 _ rfl) 5 _ rfl⟩
  have m2 : Aside0 (Below w.heap.size w (((w6.drewN (nd + 1)).setCell ⟨gw, 4, none⟩ (.int .i64 S)).setCell ⟨gw, 5, none⟩ (.int .i64 E))) := ⟨below_set (below_set (pw_below_drewN HB.out _) HGW.out) HGW.out⟩
  clear BK HB BW hz0 hz1 hz2 hz3 hz4 hz5 hz6 hz7 hz8 hz9 hz10 hw0 hw1 hw2 hw3 hw4 hw5 hw6 hw7 hw8 hw9 hw10 hwf
  generalize (((w6.drewN (nd + 1)).setCell ⟨gw, 4, none⟩ (.int .i64 S)).setCell ⟨gw, 5, none⟩ (.int .i64 E)) = w7 at *
  have BK := m0
  have BW := m1
  have HB := m2
  clear m0 m1 m2
  obtain ⟨hz0, hz1, hz2, hz3, hz4, hz5, hz6, hz7, hz8, hz9, hz10⟩ := cells11 BK.out
  obtain ⟨hw0, hw1, hw2, hw3, hw4, hw5, hw6, hw7, hw8, hw9, hw10⟩ := cells11 BW.out
  have hwf := fun i_ => blk_frozen BW.out i_
  go_wp2_with (first
    | (go_at_call 34; (with_reducible refine (thresherref0_Num.calls T 3 _ _ HX.out).mono ?_); rintro e w' ⟨rfl, ⟨nd, rfl⟩⟩)
    | (go_at_call 34; (with_reducible refine (thresherref0_Num.calls 0 3 _ _ rfl).mono ?_); rintro e w' ⟨rfl, ⟨nd, rfl⟩⟩)
    | (go_at_call 35; (with_reducible refine (thresherref0_ID.calls J _ _ HJ.out).mono ?_); rintro e w' ⟨rfl, ⟨nd, rfl⟩⟩)
    | (go_at_call 35; (with_reducible refine (thresherref0_ID.calls S _ _ HS.out).mono ?_); rintro e w' ⟨rfl, ⟨nd, rfl⟩⟩))
  go_ret
  exact ⟨by first | rfl | simp, by repeat (first | (with_reducible first | exact HB.out | refine pw_below_drewN ?_ _ | refine below_drew1 ?_ | refine below_set ?_ HGW.out) | exact HB.out)⟩
set_option maxHeartbeats 16000000 in
set_option maxRecDepth 100000 in
theorem mrGood14 (T : Int) (J S E O L U C : Int) (D : ByteArray) (w : World) (h : thresherref0_Num.f T 3 = some true) (hT : T ≠ 0) (hJ : thresherref0_ID.f J = some true) (H : thresherref0_ID.f S = some true ∧ (1 ≤ E ∧ E ≤ 1048576) ∧ D.size ≤ 1024) :
    Calls Try.prog 22 #[.agg #[.int .i64 1, .int .i64 0, .int .i64 T, .int .i64 J, .int .i64 S, .int .i64 E, .int .i64 O, .int .i64 L, .int .u32 U, .int .i64 C, .string D]] w fun e w' => e = .returned (.bool (O == 0 && (L == 0 && (U == 0 && C == 0)))) ∧ Below w.heap.size w w' := by
  have hu29 := Try.underlying29
  have HB := Aside0.mk (Below.refl w.heap.size w)
  have HX := Aside0.mk h
  clear h
  have HJ := Aside0.mk hJ
  clear hJ
  have hT1 : (T == 0) = false := beq_eq_false_iff_ne.mpr hT
  have hT2 : (T != 0) = true := bne_iff_ne.mpr hT
  clear hT
  obtain ⟨h1, h2, h3⟩ := H
  have HS := Aside0.mk h1
  have q1 : decide (E < 1) = false := decide_eq_false (by omega)
  have q2 : decide (1048576 < E) = false := decide_eq_false (by omega)
  have q3 : decide (E > 1048576) = false := decide_eq_false (by omega)
  clear h1 h2
  have q4 : decide ((D.size : Int) > 1024) = false := decide_eq_false (by omega)
  have q5 : decide (1024 < (D.size : Int)) = false := decide_eq_false (by omega)
  clear h3
  go_enter Try.func22, Try.ntmps22
  go_wp2_with (first
    | ((with_reducible refine gate_dst (N := 1) rfl ?_); refine box_event ?hg (N := 1) ?hd (cs := #[.int .i64 1, .int .i64 0, .int .i64 T, .int .i64 J, .int .i64 S, .int .i64 E, .int .i64 O, .int .i64 L, .int .u32 U, .int .i64 C, .string D]) (t := 29) ?hr ?_; (case hd => rfl); (case hg => rfl); (case hr => first | (go_simp; done) | (go_simp; rfl)); intro gb hg w2 hbox hb; have n0_ := Aside0.mk (below_step HB.out hb); have BK := Aside0.mk hbox; clear HB; have HB := n0_; clear n0_; clear hb hbox hg; obtain ⟨hz0, hz1, hz2, hz3, hz4, hz5, hz6, hz7, hz8, hz9, hz10⟩ := cells11 BK.out; have hzf := fun i_ => blk_frozen BK.out i_)
    | ((with_reducible refine gate_dst (N := 4) rfl ?_); refine box_event ?hg (N := 4) ?hd (cs := #[.int .i64 0, .int .i64 0, .int .i64 0, .int .i64 0, .int .i64 0, .int .i64 0, .int .i64 0, .int .i64 0, .int .u32 0, .int .i64 0, .string (⟨#[]⟩ : ByteArray)]) (t := 29) ?hr ?_; (case hd => rfl); (case hg => rfl); (case hr => first | (go_simp; done) | (go_simp; rfl)); intro gw hg w5 hbox hb; have BW := Aside0.mk hbox; have HBA := Aside0.mk hb; have HGA := Aside0.mk (Nat.le_of_eq hg.symm); have nbw : gb ≠ gw := (by rw [hg]; exact Nat.ne_of_lt (blk_lt (by repeat (first | exact BK.out | refine blk_drewN ?_ _)))); have nwb : gw ≠ gb := Ne.symm nbw; have HGW : Aside0 (w.heap.size ≤ gw) := (⟨by rw [hg]; exact below_size (show Below w.heap.size w _ from by repeat (first | exact HB.out | refine pw_below_drewN ?_ _))⟩); clear hb hbox hg)
    | ((with_reducible refine gate_store (t := 29) (p := 4) rfl ?_); refine store_whole 29 4 _ rfl rfl rfl gw [.int .i64 1, .int .i64 0, .int .i64 T, .int .i64 J, .int .i64 0, .int .i64 0, .int .i64 0, .int .i64 0, .int .u32 0, .int .i64 0, .string (⟨#[]⟩ : ByteArray)] BW.out rfl rfl rfl mrInfo rfl (by simp [Value.oneCell']) HBA.out HGA.out ?_; intro w6 hbw hB6; have n0_ := Aside0.mk (blk_below (by repeat (first | exact BK.out | refine blk_drewN ?_ _)) hB6); have n1_ := Aside0.mk (below_step (show Below w.heap.size w _ from by repeat (first | exact HB.out | refine pw_below_drewN ?_ _)) hB6); clear BK HB BW HBA HGA hz0 hz1 hz2 hz3 hz4 hz5 hz6 hz7 hz8 hz9 hz10 hzf; have BK := n0_; have HB := n1_; have BW := Aside0.mk hbw; clear n0_ n1_ hB6 hbw; obtain ⟨hz0, hz1, hz2, hz3, hz4, hz5, hz6, hz7, hz8, hz9, hz10⟩ := cells11 BK.out; obtain ⟨hw0, hw1, hw2, hw3, hw4, hw5, hw6, hw7, hw8, hw9, hw10⟩ := cells11 BW.out; have hwf := fun i_ => blk_frozen BW.out i_)
    | (go_at_call 34; (with_reducible refine (thresherref0_Num.calls T 3 _ _ HX.out).mono ?_); rintro e w' ⟨rfl, ⟨nd, rfl⟩⟩)
    | (go_at_call 34; (with_reducible refine (thresherref0_Num.calls 0 3 _ _ rfl).mono ?_); rintro e w' ⟨rfl, ⟨nd, rfl⟩⟩)
    | (go_at_call 35; (with_reducible refine (thresherref0_ID.calls J _ _ HJ.out).mono ?_); rintro e w' ⟨rfl, ⟨nd, rfl⟩⟩)
    | (go_at_call 35; (with_reducible refine (thresherref0_ID.calls S _ _ HS.out).mono ?_); rintro e w' ⟨rfl, ⟨nd, rfl⟩⟩))
  go_region_held3 (fun w' => w'.cell? ⟨gb, 4, none⟩ = some (.int .i64 S) ∧ w'.cell? ⟨gb, 5, none⟩ = some (.int .i64 E)) (first | go_keep | exact ⟨by simp [*], by simp [*]⟩) (fail)
  have m0 := Aside0.mk (blk_far (p := ⟨gw, 5, none⟩) (blk_far (p := ⟨gw, 4, none⟩) (blk_drewN BK.out (nd + 1)) nbw (.int .i64 S)) nbw (.int .i64 E))
  have m1 : Aside0 ((((w6.drewN (nd + 1)).setCell ⟨gw, 4, none⟩ (.int .i64 S)).setCell ⟨gw, 5, none⟩ (.int .i64 E)).heap[gw]? = some (.cells #[.int .i64 1, .int .i64 0, .int .i64 T, .int .i64 J, .int .i64 S, .int .i64 E, .int .i64 0, .int .i64 0, .int .u32 0, .int .i64 0, .string (⟨#[]⟩ : ByteArray)] 29 (0, 0))) := ⟨blk_put (blk_put (blk_drewN BW.out _) 4 _ rfl) 5 _ rfl⟩
  have m2 : Aside0 (Below w.heap.size w (((w6.drewN (nd + 1)).setCell ⟨gw, 4, none⟩ (.int .i64 S)).setCell ⟨gw, 5, none⟩ (.int .i64 E))) := ⟨below_set (below_set (pw_below_drewN HB.out _) HGW.out) HGW.out⟩
  clear BK HB BW hz0 hz1 hz2 hz3 hz4 hz5 hz6 hz7 hz8 hz9 hz10 hw0 hw1 hw2 hw3 hw4 hw5 hw6 hw7 hw8 hw9 hw10 hwf
  generalize (((w6.drewN (nd + 1)).setCell ⟨gw, 4, none⟩ (.int .i64 S)).setCell ⟨gw, 5, none⟩ (.int .i64 E)) = w7 at *
  have BK := m0
  have BW := m1
  have HB := m2
  clear m0 m1 m2
  obtain ⟨hz0, hz1, hz2, hz3, hz4, hz5, hz6, hz7, hz8, hz9, hz10⟩ := cells11 BK.out
  obtain ⟨hw0, hw1, hw2, hw3, hw4, hw5, hw6, hw7, hw8, hw9, hw10⟩ := cells11 BW.out
  have hwf := fun i_ => blk_frozen BW.out i_
  go_wp2_with (first
    | (go_at_call 34; (with_reducible refine (thresherref0_Num.calls T 3 _ _ HX.out).mono ?_); rintro e w' ⟨rfl, ⟨nd, rfl⟩⟩)
    | (go_at_call 34; (with_reducible refine (thresherref0_Num.calls 0 3 _ _ rfl).mono ?_); rintro e w' ⟨rfl, ⟨nd, rfl⟩⟩)
    | (go_at_call 35; (with_reducible refine (thresherref0_ID.calls J _ _ HJ.out).mono ?_); rintro e w' ⟨rfl, ⟨nd, rfl⟩⟩)
    | (go_at_call 35; (with_reducible refine (thresherref0_ID.calls S _ _ HS.out).mono ?_); rintro e w' ⟨rfl, ⟨nd, rfl⟩⟩))
  go_ret
  exact ⟨by first | rfl | simp, by repeat (first | (with_reducible first | exact HB.out | refine pw_below_drewN ?_ _ | refine below_drew1 ?_ | refine below_set ?_ HGW.out) | exact HB.out)⟩
set_option maxHeartbeats 16000000 in
set_option maxRecDepth 100000 in
theorem mrGood20 (F : Int) (J S E O L U C : Int) (D : ByteArray) (w : World) (h : thresherref0_Num.f F 3 = some true) (hF : F ≠ 0) (hJ : thresherref0_ID.f J = some true) (H : thresherref0_ID.f S = some false) :
    Calls Try.prog 22 #[.agg #[.int .i64 2, .int .i64 F, .int .i64 0, .int .i64 J, .int .i64 S, .int .i64 E, .int .i64 O, .int .i64 L, .int .u32 U, .int .i64 C, .string D]] w fun e w' => e = .returned (.bool false) ∧ Below w.heap.size w w' := by
  have hu29 := Try.underlying29
  have HB := Aside0.mk (Below.refl w.heap.size w)
  have HX := Aside0.mk h
  clear h
  have HJ := Aside0.mk hJ
  clear hJ
  have hF1 : (F == 0) = false := beq_eq_false_iff_ne.mpr hF
  have hF2 : (F != 0) = true := bne_iff_ne.mpr hF
  clear hF
  have h1 := H
  clear H
  have HS := Aside0.mk h1
  clear h1
  go_enter Try.func22, Try.ntmps22
  go_wp2_with (first
    | ((with_reducible refine gate_dst (N := 1) rfl ?_); refine box_event ?hg (N := 1) ?hd (cs := #[.int .i64 2, .int .i64 F, .int .i64 0, .int .i64 J, .int .i64 S, .int .i64 E, .int .i64 O, .int .i64 L, .int .u32 U, .int .i64 C, .string D]) (t := 29) ?hr ?_; (case hd => rfl); (case hg => rfl); (case hr => first | (go_simp; done) | (go_simp; rfl)); intro gb hg w2 hbox hb; have n0_ := Aside0.mk (below_step HB.out hb); have BK := Aside0.mk hbox; clear HB; have HB := n0_; clear n0_; clear hb hbox hg; obtain ⟨hz0, hz1, hz2, hz3, hz4, hz5, hz6, hz7, hz8, hz9, hz10⟩ := cells11 BK.out; have hzf := fun i_ => blk_frozen BK.out i_)
    | ((with_reducible refine gate_dst (N := 4) rfl ?_); refine box_event ?hg (N := 4) ?hd (cs := #[.int .i64 0, .int .i64 0, .int .i64 0, .int .i64 0, .int .i64 0, .int .i64 0, .int .i64 0, .int .i64 0, .int .u32 0, .int .i64 0, .string (⟨#[]⟩ : ByteArray)]) (t := 29) ?hr ?_; (case hd => rfl); (case hg => rfl); (case hr => first | (go_simp; done) | (go_simp; rfl)); intro gw hg w5 hbox hb; have BW := Aside0.mk hbox; have HBA := Aside0.mk hb; have HGA := Aside0.mk (Nat.le_of_eq hg.symm); have nbw : gb ≠ gw := (by rw [hg]; exact Nat.ne_of_lt (blk_lt (by repeat (first | exact BK.out | refine blk_drewN ?_ _)))); have nwb : gw ≠ gb := Ne.symm nbw; have HGW : Aside0 (w.heap.size ≤ gw) := (⟨by rw [hg]; exact below_size (show Below w.heap.size w _ from by repeat (first | exact HB.out | refine pw_below_drewN ?_ _))⟩); clear hb hbox hg)
    | ((with_reducible refine gate_store (t := 29) (p := 4) rfl ?_); refine store_whole 29 4 _ rfl rfl rfl gw [.int .i64 2, .int .i64 F, .int .i64 0, .int .i64 J, .int .i64 0, .int .i64 0, .int .i64 0, .int .i64 0, .int .u32 0, .int .i64 0, .string (⟨#[]⟩ : ByteArray)] BW.out rfl rfl rfl mrInfo rfl (by simp [Value.oneCell']) HBA.out HGA.out ?_; intro w6 hbw hB6; have n0_ := Aside0.mk (blk_below (by repeat (first | exact BK.out | refine blk_drewN ?_ _)) hB6); have n1_ := Aside0.mk (below_step (show Below w.heap.size w _ from by repeat (first | exact HB.out | refine pw_below_drewN ?_ _)) hB6); clear BK HB BW HBA HGA hz0 hz1 hz2 hz3 hz4 hz5 hz6 hz7 hz8 hz9 hz10 hzf; have BK := n0_; have HB := n1_; have BW := Aside0.mk hbw; clear n0_ n1_ hB6 hbw; obtain ⟨hz0, hz1, hz2, hz3, hz4, hz5, hz6, hz7, hz8, hz9, hz10⟩ := cells11 BK.out; obtain ⟨hw0, hw1, hw2, hw3, hw4, hw5, hw6, hw7, hw8, hw9, hw10⟩ := cells11 BW.out; have hwf := fun i_ => blk_frozen BW.out i_)
    | (go_at_call 34; (with_reducible refine (thresherref0_Num.calls F 3 _ _ HX.out).mono ?_); rintro e w' ⟨rfl, ⟨nd, rfl⟩⟩)
    | (go_at_call 34; (with_reducible refine (thresherref0_Num.calls 0 3 _ _ rfl).mono ?_); rintro e w' ⟨rfl, ⟨nd, rfl⟩⟩)
    | (go_at_call 35; (with_reducible refine (thresherref0_ID.calls J _ _ HJ.out).mono ?_); rintro e w' ⟨rfl, ⟨nd, rfl⟩⟩)
    | (go_at_call 35; (with_reducible refine (thresherref0_ID.calls S _ _ HS.out).mono ?_); rintro e w' ⟨rfl, ⟨nd, rfl⟩⟩)
    | (go_at_call 34; (with_reducible refine (thresherref0_Num.calls L 32768 _ _ HL.out).mono ?_); rintro e w' ⟨rfl, ⟨nd, rfl⟩⟩)
    | (go_at_call 34; (with_reducible refine (thresherref0_Num.calls O L _ _ HO.out).mono ?_); rintro e w' ⟨rfl, ⟨nd, rfl⟩⟩))
  go_ret
  exact ⟨by first | rfl | simp, by repeat (first | (with_reducible first | exact HB.out | refine pw_below_drewN ?_ _ | refine below_drew1 ?_ | refine below_set ?_ HGW.out) | exact HB.out)⟩
set_option maxHeartbeats 16000000 in
set_option maxRecDepth 100000 in
theorem mrGood21 (F : Int) (J S E O L U C : Int) (D : ByteArray) (w : World) (h : thresherref0_Num.f F 3 = some true) (hF : F ≠ 0) (hJ : thresherref0_ID.f J = some true) (H : thresherref0_ID.f S = some true ∧ E < 1) :
    Calls Try.prog 22 #[.agg #[.int .i64 2, .int .i64 F, .int .i64 0, .int .i64 J, .int .i64 S, .int .i64 E, .int .i64 O, .int .i64 L, .int .u32 U, .int .i64 C, .string D]] w fun e w' => e = .returned (.bool false) ∧ Below w.heap.size w w' := by
  have hu29 := Try.underlying29
  have HB := Aside0.mk (Below.refl w.heap.size w)
  have HX := Aside0.mk h
  clear h
  have HJ := Aside0.mk hJ
  clear hJ
  have hF1 : (F == 0) = false := beq_eq_false_iff_ne.mpr hF
  have hF2 : (F != 0) = true := bne_iff_ne.mpr hF
  clear hF
  obtain ⟨h1, h2⟩ := H
  have HS := Aside0.mk h1
  have q1 : decide (E < 1) = true := decide_eq_true h2
  clear h1 h2
  go_enter Try.func22, Try.ntmps22
  go_wp2_with (first
    | ((with_reducible refine gate_dst (N := 1) rfl ?_); refine box_event ?hg (N := 1) ?hd (cs := #[.int .i64 2, .int .i64 F, .int .i64 0, .int .i64 J, .int .i64 S, .int .i64 E, .int .i64 O, .int .i64 L, .int .u32 U, .int .i64 C, .string D]) (t := 29) ?hr ?_; (case hd => rfl); (case hg => rfl); (case hr => first | (go_simp; done) | (go_simp; rfl)); intro gb hg w2 hbox hb; have n0_ := Aside0.mk (below_step HB.out hb); have BK := Aside0.mk hbox; clear HB; have HB := n0_; clear n0_; clear hb hbox hg; obtain ⟨hz0, hz1, hz2, hz3, hz4, hz5, hz6, hz7, hz8, hz9, hz10⟩ := cells11 BK.out; have hzf := fun i_ => blk_frozen BK.out i_)
    | ((with_reducible refine gate_dst (N := 4) rfl ?_); refine box_event ?hg (N := 4) ?hd (cs := #[.int .i64 0, .int .i64 0, .int .i64 0, .int .i64 0, .int .i64 0, .int .i64 0, .int .i64 0, .int .i64 0, .int .u32 0, .int .i64 0, .string (⟨#[]⟩ : ByteArray)]) (t := 29) ?hr ?_; (case hd => rfl); (case hg => rfl); (case hr => first | (go_simp; done) | (go_simp; rfl)); intro gw hg w5 hbox hb; have BW := Aside0.mk hbox; have HBA := Aside0.mk hb; have HGA := Aside0.mk (Nat.le_of_eq hg.symm); have nbw : gb ≠ gw := (by rw [hg]; exact Nat.ne_of_lt (blk_lt (by repeat (first | exact BK.out | refine blk_drewN ?_ _)))); have nwb : gw ≠ gb := Ne.symm nbw; have HGW : Aside0 (w.heap.size ≤ gw) := (⟨by rw [hg]; exact below_size (show Below w.heap.size w _ from by repeat (first | exact HB.out | refine pw_below_drewN ?_ _))⟩); clear hb hbox hg)
    | ((with_reducible refine gate_store (t := 29) (p := 4) rfl ?_); refine store_whole 29 4 _ rfl rfl rfl gw [.int .i64 2, .int .i64 F, .int .i64 0, .int .i64 J, .int .i64 0, .int .i64 0, .int .i64 0, .int .i64 0, .int .u32 0, .int .i64 0, .string (⟨#[]⟩ : ByteArray)] BW.out rfl rfl rfl mrInfo rfl (by simp [Value.oneCell']) HBA.out HGA.out ?_; intro w6 hbw hB6; have n0_ := Aside0.mk (blk_below (by repeat (first | exact BK.out | refine blk_drewN ?_ _)) hB6); have n1_ := Aside0.mk (below_step (show Below w.heap.size w _ from by repeat (first | exact HB.out | refine pw_below_drewN ?_ _)) hB6); clear BK HB BW HBA HGA hz0 hz1 hz2 hz3 hz4 hz5 hz6 hz7 hz8 hz9 hz10 hzf; have BK := n0_; have HB := n1_; have BW := Aside0.mk hbw; clear n0_ n1_ hB6 hbw; obtain ⟨hz0, hz1, hz2, hz3, hz4, hz5, hz6, hz7, hz8, hz9, hz10⟩ := cells11 BK.out; obtain ⟨hw0, hw1, hw2, hw3, hw4, hw5, hw6, hw7, hw8, hw9, hw10⟩ := cells11 BW.out; have hwf := fun i_ => blk_frozen BW.out i_)
    | (go_at_call 34; (with_reducible refine (thresherref0_Num.calls F 3 _ _ HX.out).mono ?_); rintro e w' ⟨rfl, ⟨nd, rfl⟩⟩)
    | (go_at_call 34; (with_reducible refine (thresherref0_Num.calls 0 3 _ _ rfl).mono ?_); rintro e w' ⟨rfl, ⟨nd, rfl⟩⟩)
    | (go_at_call 35; (with_reducible refine (thresherref0_ID.calls J _ _ HJ.out).mono ?_); rintro e w' ⟨rfl, ⟨nd, rfl⟩⟩)
    | (go_at_call 35; (with_reducible refine (thresherref0_ID.calls S _ _ HS.out).mono ?_); rintro e w' ⟨rfl, ⟨nd, rfl⟩⟩)
    | (go_at_call 34; (with_reducible refine (thresherref0_Num.calls L 32768 _ _ HL.out).mono ?_); rintro e w' ⟨rfl, ⟨nd, rfl⟩⟩)
    | (go_at_call 34; (with_reducible refine (thresherref0_Num.calls O L _ _ HO.out).mono ?_); rintro e w' ⟨rfl, ⟨nd, rfl⟩⟩))
  go_ret
  exact ⟨by first | rfl | simp, by repeat (first | (with_reducible first | exact HB.out | refine pw_below_drewN ?_ _ | refine below_drew1 ?_ | refine below_set ?_ HGW.out) | exact HB.out)⟩
set_option maxHeartbeats 16000000 in
set_option maxRecDepth 100000 in
theorem mrGood22 (F : Int) (J S E O L U C : Int) (D : ByteArray) (w : World) (h : thresherref0_Num.f F 3 = some true) (hF : F ≠ 0) (hJ : thresherref0_ID.f J = some true) (H : thresherref0_ID.f S = some true ∧ 1048576 < E) :
    Calls Try.prog 22 #[.agg #[.int .i64 2, .int .i64 F, .int .i64 0, .int .i64 J, .int .i64 S, .int .i64 E, .int .i64 O, .int .i64 L, .int .u32 U, .int .i64 C, .string D]] w fun e w' => e = .returned (.bool false) ∧ Below w.heap.size w w' := by
  have hu29 := Try.underlying29
  have HB := Aside0.mk (Below.refl w.heap.size w)
  have HX := Aside0.mk h
  clear h
  have HJ := Aside0.mk hJ
  clear hJ
  have hF1 : (F == 0) = false := beq_eq_false_iff_ne.mpr hF
  have hF2 : (F != 0) = true := bne_iff_ne.mpr hF
  clear hF
  obtain ⟨h1, h2⟩ := H
  have HS := Aside0.mk h1
  have q1 : decide (E < 1) = false := decide_eq_false (by omega)
  have q2 : decide (1048576 < E) = true := decide_eq_true h2
  have q3 : decide (E > 1048576) = true := decide_eq_true h2
  clear h1 h2
  go_enter Try.func22, Try.ntmps22
  go_wp2_with (first
    | ((with_reducible refine gate_dst (N := 1) rfl ?_); refine box_event ?hg (N := 1) ?hd (cs := #[.int .i64 2, .int .i64 F, .int .i64 0, .int .i64 J, .int .i64 S, .int .i64 E, .int .i64 O, .int .i64 L, .int .u32 U, .int .i64 C, .string D]) (t := 29) ?hr ?_; (case hd => rfl); (case hg => rfl); (case hr => first | (go_simp; done) | (go_simp; rfl)); intro gb hg w2 hbox hb; have n0_ := Aside0.mk (below_step HB.out hb); have BK := Aside0.mk hbox; clear HB; have HB := n0_; clear n0_; clear hb hbox hg; obtain ⟨hz0, hz1, hz2, hz3, hz4, hz5, hz6, hz7, hz8, hz9, hz10⟩ := cells11 BK.out; have hzf := fun i_ => blk_frozen BK.out i_)
    | ((with_reducible refine gate_dst (N := 4) rfl ?_); refine box_event ?hg (N := 4) ?hd (cs := #[.int .i64 0, .int .i64 0, .int .i64 0, .int .i64 0, .int .i64 0, .int .i64 0, .int .i64 0, .int .i64 0, .int .u32 0, .int .i64 0, .string (⟨#[]⟩ : ByteArray)]) (t := 29) ?hr ?_; (case hd => rfl); (case hg => rfl); (case hr => first | (go_simp; done) | (go_simp; rfl)); intro gw hg w5 hbox hb; have BW := Aside0.mk hbox; have HBA := Aside0.mk hb; have HGA := Aside0.mk (Nat.le_of_eq hg.symm); have nbw : gb ≠ gw := (by rw [hg]; exact Nat.ne_of_lt (blk_lt (by repeat (first | exact BK.out | refine blk_drewN ?_ _)))); have nwb : gw ≠ gb := Ne.symm nbw; have HGW : Aside0 (w.heap.size ≤ gw) := (⟨by rw [hg]; exact below_size (show Below w.heap.size w _ from by repeat (first | exact HB.out | refine pw_below_drewN ?_ _))⟩); clear hb hbox hg)
    | ((with_reducible refine gate_store (t := 29) (p := 4) rfl ?_); refine store_whole 29 4 _ rfl rfl rfl gw [.int .i64 2, .int .i64 F, .int .i64 0, .int .i64 J, .int .i64 0, .int .i64 0, .int .i64 0, .int .i64 0, .int .u32 0, .int .i64 0, .string (⟨#[]⟩ : ByteArray)] BW.out rfl rfl rfl mrInfo rfl (by simp [Value.oneCell']) HBA.out HGA.out ?_; intro w6 hbw hB6; have n0_ := Aside0.mk (blk_below (by repeat (first | exact BK.out | refine blk_drewN ?_ _)) hB6); have n1_ := Aside0.mk (below_step (show Below w.heap.size w _ from by repeat (first | exact HB.out | refine pw_below_drewN ?_ _)) hB6); clear BK HB BW HBA HGA hz0 hz1 hz2 hz3 hz4 hz5 hz6 hz7 hz8 hz9 hz10 hzf; have BK := n0_; have HB := n1_; have BW := Aside0.mk hbw; clear n0_ n1_ hB6 hbw; obtain ⟨hz0, hz1, hz2, hz3, hz4, hz5, hz6, hz7, hz8, hz9, hz10⟩ := cells11 BK.out; obtain ⟨hw0, hw1, hw2, hw3, hw4, hw5, hw6, hw7, hw8, hw9, hw10⟩ := cells11 BW.out; have hwf := fun i_ => blk_frozen BW.out i_)
    | (go_at_call 34; (with_reducible refine (thresherref0_Num.calls F 3 _ _ HX.out).mono ?_); rintro e w' ⟨rfl, ⟨nd, rfl⟩⟩)
    | (go_at_call 34; (with_reducible refine (thresherref0_Num.calls 0 3 _ _ rfl).mono ?_); rintro e w' ⟨rfl, ⟨nd, rfl⟩⟩)
    | (go_at_call 35; (with_reducible refine (thresherref0_ID.calls J _ _ HJ.out).mono ?_); rintro e w' ⟨rfl, ⟨nd, rfl⟩⟩)
    | (go_at_call 35; (with_reducible refine (thresherref0_ID.calls S _ _ HS.out).mono ?_); rintro e w' ⟨rfl, ⟨nd, rfl⟩⟩)
    | (go_at_call 34; (with_reducible refine (thresherref0_Num.calls L 32768 _ _ HL.out).mono ?_); rintro e w' ⟨rfl, ⟨nd, rfl⟩⟩)
    | (go_at_call 34; (with_reducible refine (thresherref0_Num.calls O L _ _ HO.out).mono ?_); rintro e w' ⟨rfl, ⟨nd, rfl⟩⟩))
  go_ret
  exact ⟨by first | rfl | simp, by repeat (first | (with_reducible first | exact HB.out | refine pw_below_drewN ?_ _ | refine below_drew1 ?_ | refine below_set ?_ HGW.out) | exact HB.out)⟩
set_option maxHeartbeats 16000000 in
set_option maxRecDepth 100000 in
theorem mrGood23 (F : Int) (J S E O L U C : Int) (D : ByteArray) (w : World) (h : thresherref0_Num.f F 3 = some true) (hF : F ≠ 0) (hJ : thresherref0_ID.f J = some true) (H : thresherref0_ID.f S = some true ∧ (1 ≤ E ∧ E ≤ 1048576) ∧ thresherref0_Num.f L 32768 = some false) :
    Calls Try.prog 22 #[.agg #[.int .i64 2, .int .i64 F, .int .i64 0, .int .i64 J, .int .i64 S, .int .i64 E, .int .i64 O, .int .i64 L, .int .u32 U, .int .i64 C, .string D]] w fun e w' => e = .returned (.bool false) ∧ Below w.heap.size w w' := by
  have hu29 := Try.underlying29
  have HB := Aside0.mk (Below.refl w.heap.size w)
  have HX := Aside0.mk h
  clear h
  have HJ := Aside0.mk hJ
  clear hJ
  have hF1 : (F == 0) = false := beq_eq_false_iff_ne.mpr hF
  have hF2 : (F != 0) = true := bne_iff_ne.mpr hF
  clear hF
  obtain ⟨h1, h2, h3⟩ := H
  have HS := Aside0.mk h1
  have q1 : decide (E < 1) = false := decide_eq_false (by omega)
  have q2 : decide (1048576 < E) = false := decide_eq_false (by omega)
  have q3 : decide (E > 1048576) = false := decide_eq_false (by omega)
  clear h1 h2
  have HL := Aside0.mk h3
  have HO := Aside0.mk True.intro
  clear h3
  go_enter Try.func22, Try.ntmps22
  go_wp2_with (first
    | ((with_reducible refine gate_dst (N := 1) rfl ?_); refine box_event ?hg (N := 1) ?hd (cs := #[.int .i64 2, .int .i64 F, .int .i64 0, .int .i64 J, .int .i64 S, .int .i64 E, .int .i64 O, .int .i64 L, .int .u32 U, .int .i64 C, .string D]) (t := 29) ?hr ?_; (case hd => rfl); (case hg => rfl); (case hr => first | (go_simp; done) | (go_simp; rfl)); intro gb hg w2 hbox hb; have n0_ := Aside0.mk (below_step HB.out hb); have BK := Aside0.mk hbox; clear HB; have HB := n0_; clear n0_; clear hb hbox hg; obtain ⟨hz0, hz1, hz2, hz3, hz4, hz5, hz6, hz7, hz8, hz9, hz10⟩ := cells11 BK.out; have hzf := fun i_ => blk_frozen BK.out i_)
    | ((with_reducible refine gate_dst (N := 4) rfl ?_); refine box_event ?hg (N := 4) ?hd (cs := #[.int .i64 0, .int .i64 0, .int .i64 0, .int .i64 0, .int .i64 0, .int .i64 0, .int .i64 0, .int .i64 0, .int .u32 0, .int .i64 0, .string (⟨#[]⟩ : ByteArray)]) (t := 29) ?hr ?_; (case hd => rfl); (case hg => rfl); (case hr => first | (go_simp; done) | (go_simp; rfl)); intro gw hg w5 hbox hb; have BW := Aside0.mk hbox; have HBA := Aside0.mk hb; have HGA := Aside0.mk (Nat.le_of_eq hg.symm); have nbw : gb ≠ gw := (by rw [hg]; exact Nat.ne_of_lt (blk_lt (by repeat (first | exact BK.out | refine blk_drewN ?_ _)))); have nwb : gw ≠ gb := Ne.symm nbw; have HGW : Aside0 (w.heap.size ≤ gw) := (⟨by rw [hg]; exact below_size (show Below w.heap.size w _ from by repeat (first | exact HB.out | refine pw_below_drewN ?_ _))⟩); clear hb hbox hg)
    | ((with_reducible refine gate_store (t := 29) (p := 4) rfl ?_); refine store_whole 29 4 _ rfl rfl rfl gw [.int .i64 2, .int .i64 F, .int .i64 0, .int .i64 J, .int .i64 0, .int .i64 0, .int .i64 0, .int .i64 0, .int .u32 0, .int .i64 0, .string (⟨#[]⟩ : ByteArray)] BW.out rfl rfl rfl mrInfo rfl (by simp [Value.oneCell']) HBA.out HGA.out ?_; intro w6 hbw hB6; have n0_ := Aside0.mk (blk_below (by repeat (first | exact BK.out | refine blk_drewN ?_ _)) hB6); have n1_ := Aside0.mk (below_step (show Below w.heap.size w _ from by repeat (first | exact HB.out | refine pw_below_drewN ?_ _)) hB6); clear BK HB BW HBA HGA hz0 hz1 hz2 hz3 hz4 hz5 hz6 hz7 hz8 hz9 hz10 hzf; have BK := n0_; have HB := n1_; have BW := Aside0.mk hbw; clear n0_ n1_ hB6 hbw; obtain ⟨hz0, hz1, hz2, hz3, hz4, hz5, hz6, hz7, hz8, hz9, hz10⟩ := cells11 BK.out; obtain ⟨hw0, hw1, hw2, hw3, hw4, hw5, hw6, hw7, hw8, hw9, hw10⟩ := cells11 BW.out; have hwf := fun i_ => blk_frozen BW.out i_)
    | (go_at_call 34; (with_reducible refine (thresherref0_Num.calls F 3 _ _ HX.out).mono ?_); rintro e w' ⟨rfl, ⟨nd, rfl⟩⟩)
    | (go_at_call 34; (with_reducible refine (thresherref0_Num.calls 0 3 _ _ rfl).mono ?_); rintro e w' ⟨rfl, ⟨nd, rfl⟩⟩)
    | (go_at_call 35; (with_reducible refine (thresherref0_ID.calls J _ _ HJ.out).mono ?_); rintro e w' ⟨rfl, ⟨nd, rfl⟩⟩)
    | (go_at_call 35; (with_reducible refine (thresherref0_ID.calls S _ _ HS.out).mono ?_); rintro e w' ⟨rfl, ⟨nd, rfl⟩⟩)
    | (go_at_call 34; (with_reducible refine (thresherref0_Num.calls L 32768 _ _ HL.out).mono ?_); rintro e w' ⟨rfl, ⟨nd, rfl⟩⟩)
    | (go_at_call 34; (with_reducible refine (thresherref0_Num.calls O L _ _ HO.out).mono ?_); rintro e w' ⟨rfl, ⟨nd, rfl⟩⟩))
  go_region_held3 (fun w' => w'.cell? ⟨gb, 4, none⟩ = some (.int .i64 S) ∧ w'.cell? ⟨gb, 5, none⟩ = some (.int .i64 E)) (first | go_keep | exact ⟨by simp [*], by simp [*]⟩) (fail)
  have m0 := Aside0.mk (blk_far (p := ⟨gw, 5, none⟩) (blk_far (p := ⟨gw, 4, none⟩) (blk_drewN BK.out (nd + 1)) nbw (.int .i64 S)) nbw (.int .i64 E))
  have m1 : Aside0 ((((w6.drewN (nd + 1)).setCell ⟨gw, 4, none⟩ (.int .i64 S)).setCell ⟨gw, 5, none⟩ (.int .i64 E)).heap[gw]? = some (.cells #[.int .i64 2, .int .i64 F, .int .i64 0, .int .i64 J, .int .i64 S, .int .i64 E, .int .i64 0, .int .i64 0, .int .u32 0, .int .i64 0, .string (⟨#[]⟩ : ByteArray)] 29 (0, 0))) := ⟨blk_put (blk_put (blk_drewN BW.out _) 4 _ rfl) 5 _ rfl⟩
  have m2 : Aside0 (Below w.heap.size w (((w6.drewN (nd + 1)).setCell ⟨gw, 4, none⟩ (.int .i64 S)).setCell ⟨gw, 5, none⟩ (.int .i64 E))) := ⟨below_set (below_set (pw_below_drewN HB.out _) HGW.out) HGW.out⟩
  clear BK HB BW hz0 hz1 hz2 hz3 hz4 hz5 hz6 hz7 hz8 hz9 hz10 hw0 hw1 hw2 hw3 hw4 hw5 hw6 hw7 hw8 hw9 hw10 hwf
  generalize (((w6.drewN (nd + 1)).setCell ⟨gw, 4, none⟩ (.int .i64 S)).setCell ⟨gw, 5, none⟩ (.int .i64 E)) = w7 at *
  have BK := m0
  have BW := m1
  have HB := m2
  clear m0 m1 m2
  obtain ⟨hz0, hz1, hz2, hz3, hz4, hz5, hz6, hz7, hz8, hz9, hz10⟩ := cells11 BK.out
  obtain ⟨hw0, hw1, hw2, hw3, hw4, hw5, hw6, hw7, hw8, hw9, hw10⟩ := cells11 BW.out
  have hwf := fun i_ => blk_frozen BW.out i_
  go_wp2_with (first
    | (go_at_call 34; (with_reducible refine (thresherref0_Num.calls F 3 _ _ HX.out).mono ?_); rintro e w' ⟨rfl, ⟨nd, rfl⟩⟩)
    | (go_at_call 34; (with_reducible refine (thresherref0_Num.calls 0 3 _ _ rfl).mono ?_); rintro e w' ⟨rfl, ⟨nd, rfl⟩⟩)
    | (go_at_call 35; (with_reducible refine (thresherref0_ID.calls J _ _ HJ.out).mono ?_); rintro e w' ⟨rfl, ⟨nd, rfl⟩⟩)
    | (go_at_call 35; (with_reducible refine (thresherref0_ID.calls S _ _ HS.out).mono ?_); rintro e w' ⟨rfl, ⟨nd, rfl⟩⟩)
    | (go_at_call 34; (with_reducible refine (thresherref0_Num.calls L 32768 _ _ HL.out).mono ?_); rintro e w' ⟨rfl, ⟨nd, rfl⟩⟩)
    | (go_at_call 34; (with_reducible refine (thresherref0_Num.calls O L _ _ HO.out).mono ?_); rintro e w' ⟨rfl, ⟨nd, rfl⟩⟩))
  go_region_held3 (fun w' => w'.cell? ⟨gb, 6, none⟩ = some (.int .i64 O) ∧ w'.cell? ⟨gb, 7, none⟩ = some (.int .i64 L) ∧ w'.cell? ⟨gb, 8, none⟩ = some (.int .u32 U) ∧ w'.cell? ⟨gb, 10, none⟩ = some (.string D)) (refine ⟨?_, ?_, ?_, ?_⟩ <;> (repeat (first | (with_reducible assumption) | (with_reducible refine (mrDrew _ _).trans ?_) | (with_reducible refine (cell_far nbw _).trans ?_)))) (fail)
  all_goals
    go_wp2_with (first
      | (go_at_call 34; (with_reducible refine (thresherref0_Num.calls F 3 _ _ HX.out).mono ?_); rintro e w' ⟨rfl, ⟨nd, rfl⟩⟩)
      | (go_at_call 34; (with_reducible refine (thresherref0_Num.calls 0 3 _ _ rfl).mono ?_); rintro e w' ⟨rfl, ⟨nd, rfl⟩⟩)
      | (go_at_call 35; (with_reducible refine (thresherref0_ID.calls J _ _ HJ.out).mono ?_); rintro e w' ⟨rfl, ⟨nd, rfl⟩⟩)
      | (go_at_call 35; (with_reducible refine (thresherref0_ID.calls S _ _ HS.out).mono ?_); rintro e w' ⟨rfl, ⟨nd, rfl⟩⟩)
      | (go_at_call 34; (with_reducible refine (thresherref0_Num.calls L 32768 _ _ HL.out).mono ?_); rintro e w' ⟨rfl, ⟨nd, rfl⟩⟩)
      | (go_at_call 34; (with_reducible refine (thresherref0_Num.calls O L _ _ HO.out).mono ?_); rintro e w' ⟨rfl, ⟨nd, rfl⟩⟩))
    go_ret
    exact ⟨by first | rfl | simp, by repeat (first | (with_reducible first | exact HB.out | refine pw_below_drewN ?_ _ | refine below_drew1 ?_ | refine below_set ?_ HGW.out) | exact HB.out)⟩
set_option maxHeartbeats 16000000 in
set_option maxRecDepth 100000 in
theorem mrGood24 (F : Int) (J S E O L U C : Int) (D : ByteArray) (w : World) (h : thresherref0_Num.f F 3 = some true) (hF : F ≠ 0) (hJ : thresherref0_ID.f J = some true) (H : thresherref0_ID.f S = some true ∧ (1 ≤ E ∧ E ≤ 1048576) ∧ thresherref0_Num.f L 32768 = some true ∧ thresherref0_Num.f O L = some false) :
    Calls Try.prog 22 #[.agg #[.int .i64 2, .int .i64 F, .int .i64 0, .int .i64 J, .int .i64 S, .int .i64 E, .int .i64 O, .int .i64 L, .int .u32 U, .int .i64 C, .string D]] w fun e w' => e = .returned (.bool false) ∧ Below w.heap.size w w' := by
  have hu29 := Try.underlying29
  have HB := Aside0.mk (Below.refl w.heap.size w)
  have HX := Aside0.mk h
  clear h
  have HJ := Aside0.mk hJ
  clear hJ
  have hF1 : (F == 0) = false := beq_eq_false_iff_ne.mpr hF
  have hF2 : (F != 0) = true := bne_iff_ne.mpr hF
  clear hF
  obtain ⟨h1, h2, h3, h4⟩ := H
  have HS := Aside0.mk h1
  have q1 : decide (E < 1) = false := decide_eq_false (by omega)
  have q2 : decide (1048576 < E) = false := decide_eq_false (by omega)
  have q3 : decide (E > 1048576) = false := decide_eq_false (by omega)
  clear h1 h2
  have HL := Aside0.mk h3
  have HO := Aside0.mk h4
  clear h3 h4
  go_enter Try.func22, Try.ntmps22
  go_wp2_with (first
    | ((with_reducible refine gate_dst (N := 1) rfl ?_); refine box_event ?hg (N := 1) ?hd (cs := #[.int .i64 2, .int .i64 F, .int .i64 0, .int .i64 J, .int .i64 S, .int .i64 E, .int .i64 O, .int .i64 L, .int .u32 U, .int .i64 C, .string D]) (t := 29) ?hr ?_; (case hd => rfl); (case hg => rfl); (case hr => first | (go_simp; done) | (go_simp; rfl)); intro gb hg w2 hbox hb; have n0_ := Aside0.mk (below_step HB.out hb); have BK := Aside0.mk hbox; clear HB; have HB := n0_; clear n0_; clear hb hbox hg; obtain ⟨hz0, hz1, hz2, hz3, hz4, hz5, hz6, hz7, hz8, hz9, hz10⟩ := cells11 BK.out; have hzf := fun i_ => blk_frozen BK.out i_)
    | ((with_reducible refine gate_dst (N := 4) rfl ?_); refine box_event ?hg (N := 4) ?hd (cs := #[.int .i64 0, .int .i64 0, .int .i64 0, .int .i64 0, .int .i64 0, .int .i64 0, .int .i64 0, .int .i64 0, .int .u32 0, .int .i64 0, .string (⟨#[]⟩ : ByteArray)]) (t := 29) ?hr ?_; (case hd => rfl); (case hg => rfl); (case hr => first | (go_simp; done) | (go_simp; rfl)); intro gw hg w5 hbox hb; have BW := Aside0.mk hbox; have HBA := Aside0.mk hb; have HGA := Aside0.mk (Nat.le_of_eq hg.symm); have nbw : gb ≠ gw := (by rw [hg]; exact Nat.ne_of_lt (blk_lt (by repeat (first | exact BK.out | refine blk_drewN ?_ _)))); have nwb : gw ≠ gb := Ne.symm nbw; have HGW : Aside0 (w.heap.size ≤ gw) := (⟨by rw [hg]; exact below_size (show Below w.heap.size w _ from by repeat (first | exact HB.out | refine pw_below_drewN ?_ _))⟩); clear hb hbox hg)
    | ((with_reducible refine gate_store (t := 29) (p := 4) rfl ?_); refine store_whole 29 4 _ rfl rfl rfl gw [.int .i64 2, .int .i64 F, .int .i64 0, .int .i64 J, .int .i64 0, .int .i64 0, .int .i64 0, .int .i64 0, .int .u32 0, .int .i64 0, .string (⟨#[]⟩ : ByteArray)] BW.out rfl rfl rfl mrInfo rfl (by simp [Value.oneCell']) HBA.out HGA.out ?_; intro w6 hbw hB6; have n0_ := Aside0.mk (blk_below (by repeat (first | exact BK.out | refine blk_drewN ?_ _)) hB6); have n1_ := Aside0.mk (below_step (show Below w.heap.size w _ from by repeat (first | exact HB.out | refine pw_below_drewN ?_ _)) hB6); clear BK HB BW HBA HGA hz0 hz1 hz2 hz3 hz4 hz5 hz6 hz7 hz8 hz9 hz10 hzf; have BK := n0_; have HB := n1_; have BW := Aside0.mk hbw; clear n0_ n1_ hB6 hbw; obtain ⟨hz0, hz1, hz2, hz3, hz4, hz5, hz6, hz7, hz8, hz9, hz10⟩ := cells11 BK.out; obtain ⟨hw0, hw1, hw2, hw3, hw4, hw5, hw6, hw7, hw8, hw9, hw10⟩ := cells11 BW.out; have hwf := fun i_ => blk_frozen BW.out i_)
    | (go_at_call 34; (with_reducible refine (thresherref0_Num.calls F 3 _ _ HX.out).mono ?_); rintro e w' ⟨rfl, ⟨nd, rfl⟩⟩)
    | (go_at_call 34; (with_reducible refine (thresherref0_Num.calls 0 3 _ _ rfl).mono ?_); rintro e w' ⟨rfl, ⟨nd, rfl⟩⟩)
    | (go_at_call 35; (with_reducible refine (thresherref0_ID.calls J _ _ HJ.out).mono ?_); rintro e w' ⟨rfl, ⟨nd, rfl⟩⟩)
    | (go_at_call 35; (with_reducible refine (thresherref0_ID.calls S _ _ HS.out).mono ?_); rintro e w' ⟨rfl, ⟨nd, rfl⟩⟩)
    | (go_at_call 34; (with_reducible refine (thresherref0_Num.calls L 32768 _ _ HL.out).mono ?_); rintro e w' ⟨rfl, ⟨nd, rfl⟩⟩)
    | (go_at_call 34; (with_reducible refine (thresherref0_Num.calls O L _ _ HO.out).mono ?_); rintro e w' ⟨rfl, ⟨nd, rfl⟩⟩))
  go_region_held3 (fun w' => w'.cell? ⟨gb, 4, none⟩ = some (.int .i64 S) ∧ w'.cell? ⟨gb, 5, none⟩ = some (.int .i64 E)) (first | go_keep | exact ⟨by simp [*], by simp [*]⟩) (fail)
  have m0 := Aside0.mk (blk_far (p := ⟨gw, 5, none⟩) (blk_far (p := ⟨gw, 4, none⟩) (blk_drewN BK.out (nd + 1)) nbw (.int .i64 S)) nbw (.int .i64 E))
  have m1 : Aside0 ((((w6.drewN (nd + 1)).setCell ⟨gw, 4, none⟩ (.int .i64 S)).setCell ⟨gw, 5, none⟩ (.int .i64 E)).heap[gw]? = some (.cells #[.int .i64 2, .int .i64 F, .int .i64 0, .int .i64 J, .int .i64 S, .int .i64 E, .int .i64 0, .int .i64 0, .int .u32 0, .int .i64 0, .string (⟨#[]⟩ : ByteArray)] 29 (0, 0))) := ⟨blk_put (blk_put (blk_drewN BW.out _) 4 _ rfl) 5 _ rfl⟩
  have m2 : Aside0 (Below w.heap.size w (((w6.drewN (nd + 1)).setCell ⟨gw, 4, none⟩ (.int .i64 S)).setCell ⟨gw, 5, none⟩ (.int .i64 E))) := ⟨below_set (below_set (pw_below_drewN HB.out _) HGW.out) HGW.out⟩
  clear BK HB BW hz0 hz1 hz2 hz3 hz4 hz5 hz6 hz7 hz8 hz9 hz10 hw0 hw1 hw2 hw3 hw4 hw5 hw6 hw7 hw8 hw9 hw10 hwf
  generalize (((w6.drewN (nd + 1)).setCell ⟨gw, 4, none⟩ (.int .i64 S)).setCell ⟨gw, 5, none⟩ (.int .i64 E)) = w7 at *
  have BK := m0
  have BW := m1
  have HB := m2
  clear m0 m1 m2
  obtain ⟨hz0, hz1, hz2, hz3, hz4, hz5, hz6, hz7, hz8, hz9, hz10⟩ := cells11 BK.out
  obtain ⟨hw0, hw1, hw2, hw3, hw4, hw5, hw6, hw7, hw8, hw9, hw10⟩ := cells11 BW.out
  have hwf := fun i_ => blk_frozen BW.out i_
  go_wp2_with (first
    | (go_at_call 34; (with_reducible refine (thresherref0_Num.calls F 3 _ _ HX.out).mono ?_); rintro e w' ⟨rfl, ⟨nd, rfl⟩⟩)
    | (go_at_call 34; (with_reducible refine (thresherref0_Num.calls 0 3 _ _ rfl).mono ?_); rintro e w' ⟨rfl, ⟨nd, rfl⟩⟩)
    | (go_at_call 35; (with_reducible refine (thresherref0_ID.calls J _ _ HJ.out).mono ?_); rintro e w' ⟨rfl, ⟨nd, rfl⟩⟩)
    | (go_at_call 35; (with_reducible refine (thresherref0_ID.calls S _ _ HS.out).mono ?_); rintro e w' ⟨rfl, ⟨nd, rfl⟩⟩)
    | (go_at_call 34; (with_reducible refine (thresherref0_Num.calls L 32768 _ _ HL.out).mono ?_); rintro e w' ⟨rfl, ⟨nd, rfl⟩⟩)
    | (go_at_call 34; (with_reducible refine (thresherref0_Num.calls O L _ _ HO.out).mono ?_); rintro e w' ⟨rfl, ⟨nd, rfl⟩⟩))
  go_region_held3 (fun w' => w'.cell? ⟨gb, 6, none⟩ = some (.int .i64 O) ∧ w'.cell? ⟨gb, 7, none⟩ = some (.int .i64 L) ∧ w'.cell? ⟨gb, 8, none⟩ = some (.int .u32 U) ∧ w'.cell? ⟨gb, 10, none⟩ = some (.string D)) (refine ⟨?_, ?_, ?_, ?_⟩ <;> (repeat (first | (with_reducible assumption) | (with_reducible refine (mrDrew _ _).trans ?_) | (with_reducible refine (cell_far nbw _).trans ?_)))) (fail)
  all_goals
    go_wp2_with (first
      | (go_at_call 34; (with_reducible refine (thresherref0_Num.calls F 3 _ _ HX.out).mono ?_); rintro e w' ⟨rfl, ⟨nd, rfl⟩⟩)
      | (go_at_call 34; (with_reducible refine (thresherref0_Num.calls 0 3 _ _ rfl).mono ?_); rintro e w' ⟨rfl, ⟨nd, rfl⟩⟩)
      | (go_at_call 35; (with_reducible refine (thresherref0_ID.calls J _ _ HJ.out).mono ?_); rintro e w' ⟨rfl, ⟨nd, rfl⟩⟩)
      | (go_at_call 35; (with_reducible refine (thresherref0_ID.calls S _ _ HS.out).mono ?_); rintro e w' ⟨rfl, ⟨nd, rfl⟩⟩)
      | (go_at_call 34; (with_reducible refine (thresherref0_Num.calls L 32768 _ _ HL.out).mono ?_); rintro e w' ⟨rfl, ⟨nd, rfl⟩⟩)
      | (go_at_call 34; (with_reducible refine (thresherref0_Num.calls O L _ _ HO.out).mono ?_); rintro e w' ⟨rfl, ⟨nd, rfl⟩⟩))
    go_ret
    exact ⟨by first | rfl | simp, by repeat (first | (with_reducible first | exact HB.out | refine pw_below_drewN ?_ _ | refine below_drew1 ?_ | refine below_set ?_ HGW.out) | exact HB.out)⟩
set_option maxHeartbeats 16000000 in
set_option maxRecDepth 100000 in
theorem mrGood25 (F : Int) (J S E O L U C : Int) (D : ByteArray) (w : World) (h : thresherref0_Num.f F 3 = some true) (hF : F ≠ 0) (hJ : thresherref0_ID.f J = some true) (H : thresherref0_ID.f S = some true ∧ (1 ≤ E ∧ E ≤ 1048576) ∧ thresherref0_Num.f L 32768 = some true ∧ thresherref0_Num.f O L = some true ∧ 48 < D.size) :
    Calls Try.prog 22 #[.agg #[.int .i64 2, .int .i64 F, .int .i64 0, .int .i64 J, .int .i64 S, .int .i64 E, .int .i64 O, .int .i64 L, .int .u32 U, .int .i64 C, .string D]] w fun e w' => e = .returned (.bool false) ∧ Below w.heap.size w w' := by
  have hu29 := Try.underlying29
  have HB := Aside0.mk (Below.refl w.heap.size w)
  have HX := Aside0.mk h
  clear h
  have HJ := Aside0.mk hJ
  clear hJ
  have hF1 : (F == 0) = false := beq_eq_false_iff_ne.mpr hF
  have hF2 : (F != 0) = true := bne_iff_ne.mpr hF
  clear hF
  obtain ⟨h1, h2, h3, h4, h5⟩ := H
  have HS := Aside0.mk h1
  have q1 : decide (E < 1) = false := decide_eq_false (by omega)
  have q2 : decide (1048576 < E) = false := decide_eq_false (by omega)
  have q3 : decide (E > 1048576) = false := decide_eq_false (by omega)
  clear h1 h2
  have HL := Aside0.mk h3
  have HO := Aside0.mk h4
  have q4 : decide ((D.size : Int) > 48) = true := decide_eq_true (by omega)
  have q5 : decide (48 < (D.size : Int)) = true := decide_eq_true (by omega)
  clear h3 h4 h5
  go_enter Try.func22, Try.ntmps22
  go_wp2_with (first
    | ((with_reducible refine gate_dst (N := 1) rfl ?_); refine box_event ?hg (N := 1) ?hd (cs := #[.int .i64 2, .int .i64 F, .int .i64 0, .int .i64 J, .int .i64 S, .int .i64 E, .int .i64 O, .int .i64 L, .int .u32 U, .int .i64 C, .string D]) (t := 29) ?hr ?_; (case hd => rfl); (case hg => rfl); (case hr => first | (go_simp; done) | (go_simp; rfl)); intro gb hg w2 hbox hb; have n0_ := Aside0.mk (below_step HB.out hb); have BK := Aside0.mk hbox; clear HB; have HB := n0_; clear n0_; clear hb hbox hg; obtain ⟨hz0, hz1, hz2, hz3, hz4, hz5, hz6, hz7, hz8, hz9, hz10⟩ := cells11 BK.out; have hzf := fun i_ => blk_frozen BK.out i_)
    | ((with_reducible refine gate_dst (N := 4) rfl ?_); refine box_event ?hg (N := 4) ?hd (cs := #[.int .i64 0, .int .i64 0, .int .i64 0, .int .i64 0, .int .i64 0, .int .i64 0, .int .i64 0, .int .i64 0, .int .u32 0, .int .i64 0, .string (⟨#[]⟩ : ByteArray)]) (t := 29) ?hr ?_; (case hd => rfl); (case hg => rfl); (case hr => first | (go_simp; done) | (go_simp; rfl)); intro gw hg w5 hbox hb; have BW := Aside0.mk hbox; have HBA := Aside0.mk hb; have HGA := Aside0.mk (Nat.le_of_eq hg.symm); have nbw : gb ≠ gw := (by rw [hg]; exact Nat.ne_of_lt (blk_lt (by repeat (first | exact BK.out | refine blk_drewN ?_ _)))); have nwb : gw ≠ gb := Ne.symm nbw; have HGW : Aside0 (w.heap.size ≤ gw) := (⟨by rw [hg]; exact below_size (show Below w.heap.size w _ from by repeat (first | exact HB.out | refine pw_below_drewN ?_ _))⟩); clear hb hbox hg)
    | ((with_reducible refine gate_store (t := 29) (p := 4) rfl ?_); refine store_whole 29 4 _ rfl rfl rfl gw [.int .i64 2, .int .i64 F, .int .i64 0, .int .i64 J, .int .i64 0, .int .i64 0, .int .i64 0, .int .i64 0, .int .u32 0, .int .i64 0, .string (⟨#[]⟩ : ByteArray)] BW.out rfl rfl rfl mrInfo rfl (by simp [Value.oneCell']) HBA.out HGA.out ?_; intro w6 hbw hB6; have n0_ := Aside0.mk (blk_below (by repeat (first | exact BK.out | refine blk_drewN ?_ _)) hB6); have n1_ := Aside0.mk (below_step (show Below w.heap.size w _ from by repeat (first | exact HB.out | refine pw_below_drewN ?_ _)) hB6); clear BK HB BW HBA HGA hz0 hz1 hz2 hz3 hz4 hz5 hz6 hz7 hz8 hz9 hz10 hzf; have BK := n0_; have HB := n1_; have BW := Aside0.mk hbw; clear n0_ n1_ hB6 hbw; obtain ⟨hz0, hz1, hz2, hz3, hz4, hz5, hz6, hz7, hz8, hz9, hz10⟩ := cells11 BK.out; obtain ⟨hw0, hw1, hw2, hw3, hw4, hw5, hw6, hw7, hw8, hw9, hw10⟩ := cells11 BW.out; have hwf := fun i_ => blk_frozen BW.out i_)
    | (go_at_call 34; (with_reducible refine (thresherref0_Num.calls F 3 _ _ HX.out).mono ?_); rintro e w' ⟨rfl, ⟨nd, rfl⟩⟩)
    | (go_at_call 34; (with_reducible refine (thresherref0_Num.calls 0 3 _ _ rfl).mono ?_); rintro e w' ⟨rfl, ⟨nd, rfl⟩⟩)
    | (go_at_call 35; (with_reducible refine (thresherref0_ID.calls J _ _ HJ.out).mono ?_); rintro e w' ⟨rfl, ⟨nd, rfl⟩⟩)
    | (go_at_call 35; (with_reducible refine (thresherref0_ID.calls S _ _ HS.out).mono ?_); rintro e w' ⟨rfl, ⟨nd, rfl⟩⟩)
    | (go_at_call 34; (with_reducible refine (thresherref0_Num.calls L 32768 _ _ HL.out).mono ?_); rintro e w' ⟨rfl, ⟨nd, rfl⟩⟩)
    | (go_at_call 34; (with_reducible refine (thresherref0_Num.calls O L _ _ HO.out).mono ?_); rintro e w' ⟨rfl, ⟨nd, rfl⟩⟩))
  go_region_held3 (fun w' => w'.cell? ⟨gb, 4, none⟩ = some (.int .i64 S) ∧ w'.cell? ⟨gb, 5, none⟩ = some (.int .i64 E)) (first | go_keep | exact ⟨by simp [*], by simp [*]⟩) (fail)
  have m0 := Aside0.mk (blk_far (p := ⟨gw, 5, none⟩) (blk_far (p := ⟨gw, 4, none⟩) (blk_drewN BK.out (nd + 1)) nbw (.int .i64 S)) nbw (.int .i64 E))
  have m1 : Aside0 ((((w6.drewN (nd + 1)).setCell ⟨gw, 4, none⟩ (.int .i64 S)).setCell ⟨gw, 5, none⟩ (.int .i64 E)).heap[gw]? = some (.cells #[.int .i64 2, .int .i64 F, .int .i64 0, .int .i64 J, .int .i64 S, .int .i64 E, .int .i64 0, .int .i64 0, .int .u32 0, .int .i64 0, .string (⟨#[]⟩ : ByteArray)] 29 (0, 0))) := ⟨blk_put (blk_put (blk_drewN BW.out _) 4 _ rfl) 5 _ rfl⟩
  have m2 : Aside0 (Below w.heap.size w (((w6.drewN (nd + 1)).setCell ⟨gw, 4, none⟩ (.int .i64 S)).setCell ⟨gw, 5, none⟩ (.int .i64 E))) := ⟨below_set (below_set (pw_below_drewN HB.out _) HGW.out) HGW.out⟩
  clear BK HB BW hz0 hz1 hz2 hz3 hz4 hz5 hz6 hz7 hz8 hz9 hz10 hw0 hw1 hw2 hw3 hw4 hw5 hw6 hw7 hw8 hw9 hw10 hwf
  generalize (((w6.drewN (nd + 1)).setCell ⟨gw, 4, none⟩ (.int .i64 S)).setCell ⟨gw, 5, none⟩ (.int .i64 E)) = w7 at *
  have BK := m0
  have BW := m1
  have HB := m2
  clear m0 m1 m2
  obtain ⟨hz0, hz1, hz2, hz3, hz4, hz5, hz6, hz7, hz8, hz9, hz10⟩ := cells11 BK.out
  obtain ⟨hw0, hw1, hw2, hw3, hw4, hw5, hw6, hw7, hw8, hw9, hw10⟩ := cells11 BW.out
  have hwf := fun i_ => blk_frozen BW.out i_
  go_wp2_with (first
    | (go_at_call 34; (with_reducible refine (thresherref0_Num.calls F 3 _ _ HX.out).mono ?_); rintro e w' ⟨rfl, ⟨nd, rfl⟩⟩)
    | (go_at_call 34; (with_reducible refine (thresherref0_Num.calls 0 3 _ _ rfl).mono ?_); rintro e w' ⟨rfl, ⟨nd, rfl⟩⟩)
    | (go_at_call 35; (with_reducible refine (thresherref0_ID.calls J _ _ HJ.out).mono ?_); rintro e w' ⟨rfl, ⟨nd, rfl⟩⟩)
    | (go_at_call 35; (with_reducible refine (thresherref0_ID.calls S _ _ HS.out).mono ?_); rintro e w' ⟨rfl, ⟨nd, rfl⟩⟩)
    | (go_at_call 34; (with_reducible refine (thresherref0_Num.calls L 32768 _ _ HL.out).mono ?_); rintro e w' ⟨rfl, ⟨nd, rfl⟩⟩)
    | (go_at_call 34; (with_reducible refine (thresherref0_Num.calls O L _ _ HO.out).mono ?_); rintro e w' ⟨rfl, ⟨nd, rfl⟩⟩))
  go_region_held3 (fun w' => w'.cell? ⟨gb, 6, none⟩ = some (.int .i64 O) ∧ w'.cell? ⟨gb, 7, none⟩ = some (.int .i64 L) ∧ w'.cell? ⟨gb, 8, none⟩ = some (.int .u32 U) ∧ w'.cell? ⟨gb, 10, none⟩ = some (.string D)) (refine ⟨?_, ?_, ?_, ?_⟩ <;> (repeat (first | (with_reducible assumption) | (with_reducible refine (mrDrew _ _).trans ?_) | (with_reducible refine (cell_far nbw _).trans ?_)))) (fail)
  all_goals
    go_wp2_with (first
      | (go_at_call 34; (with_reducible refine (thresherref0_Num.calls F 3 _ _ HX.out).mono ?_); rintro e w' ⟨rfl, ⟨nd, rfl⟩⟩)
      | (go_at_call 34; (with_reducible refine (thresherref0_Num.calls 0 3 _ _ rfl).mono ?_); rintro e w' ⟨rfl, ⟨nd, rfl⟩⟩)
      | (go_at_call 35; (with_reducible refine (thresherref0_ID.calls J _ _ HJ.out).mono ?_); rintro e w' ⟨rfl, ⟨nd, rfl⟩⟩)
      | (go_at_call 35; (with_reducible refine (thresherref0_ID.calls S _ _ HS.out).mono ?_); rintro e w' ⟨rfl, ⟨nd, rfl⟩⟩)
      | (go_at_call 34; (with_reducible refine (thresherref0_Num.calls L 32768 _ _ HL.out).mono ?_); rintro e w' ⟨rfl, ⟨nd, rfl⟩⟩)
      | (go_at_call 34; (with_reducible refine (thresherref0_Num.calls O L _ _ HO.out).mono ?_); rintro e w' ⟨rfl, ⟨nd, rfl⟩⟩))
    go_ret
    exact ⟨by first | rfl | simp, by repeat (first | (with_reducible first | exact HB.out | refine pw_below_drewN ?_ _ | refine below_drew1 ?_ | refine below_set ?_ HGW.out) | exact HB.out)⟩
set_option maxHeartbeats 16000000 in
set_option maxRecDepth 100000 in
theorem mrGood26 (F : Int) (J S E O L U C : Int) (D : ByteArray) (w : World) (h : thresherref0_Num.f F 3 = some true) (hF : F ≠ 0) (hJ : thresherref0_ID.f J = some true) (H : thresherref0_ID.f S = some true ∧ (1 ≤ E ∧ E ≤ 1048576) ∧ thresherref0_Num.f L 32768 = some true ∧ thresherref0_Num.f O L = some true ∧ D.size ≤ 48) :
    Calls Try.prog 22 #[.agg #[.int .i64 2, .int .i64 F, .int .i64 0, .int .i64 J, .int .i64 S, .int .i64 E, .int .i64 O, .int .i64 L, .int .u32 U, .int .i64 C, .string D]] w fun e w' => e = .returned (.bool (C == 0)) ∧ Below w.heap.size w w' := by
  have hu29 := Try.underlying29
  have HB := Aside0.mk (Below.refl w.heap.size w)
  have HX := Aside0.mk h
  clear h
  have HJ := Aside0.mk hJ
  clear hJ
  have hF1 : (F == 0) = false := beq_eq_false_iff_ne.mpr hF
  have hF2 : (F != 0) = true := bne_iff_ne.mpr hF
  clear hF
  obtain ⟨h1, h2, h3, h4, h5⟩ := H
  have HS := Aside0.mk h1
  have q1 : decide (E < 1) = false := decide_eq_false (by omega)
  have q2 : decide (1048576 < E) = false := decide_eq_false (by omega)
  have q3 : decide (E > 1048576) = false := decide_eq_false (by omega)
  clear h1 h2
  have HL := Aside0.mk h3
  have HO := Aside0.mk h4
  have q4 : decide ((D.size : Int) > 48) = false := decide_eq_false (by omega)
  have q5 : decide (48 < (D.size : Int)) = false := decide_eq_false (by omega)
  clear h3 h4 h5
  go_enter Try.func22, Try.ntmps22
  go_wp2_with (first
    | ((with_reducible refine gate_dst (N := 1) rfl ?_); refine box_event ?hg (N := 1) ?hd (cs := #[.int .i64 2, .int .i64 F, .int .i64 0, .int .i64 J, .int .i64 S, .int .i64 E, .int .i64 O, .int .i64 L, .int .u32 U, .int .i64 C, .string D]) (t := 29) ?hr ?_; (case hd => rfl); (case hg => rfl); (case hr => first | (go_simp; done) | (go_simp; rfl)); intro gb hg w2 hbox hb; have n0_ := Aside0.mk (below_step HB.out hb); have BK := Aside0.mk hbox; clear HB; have HB := n0_; clear n0_; clear hb hbox hg; obtain ⟨hz0, hz1, hz2, hz3, hz4, hz5, hz6, hz7, hz8, hz9, hz10⟩ := cells11 BK.out; have hzf := fun i_ => blk_frozen BK.out i_)
    | ((with_reducible refine gate_dst (N := 4) rfl ?_); refine box_event ?hg (N := 4) ?hd (cs := #[.int .i64 0, .int .i64 0, .int .i64 0, .int .i64 0, .int .i64 0, .int .i64 0, .int .i64 0, .int .i64 0, .int .u32 0, .int .i64 0, .string (⟨#[]⟩ : ByteArray)]) (t := 29) ?hr ?_; (case hd => rfl); (case hg => rfl); (case hr => first | (go_simp; done) | (go_simp; rfl)); intro gw hg w5 hbox hb; have BW := Aside0.mk hbox; have HBA := Aside0.mk hb; have HGA := Aside0.mk (Nat.le_of_eq hg.symm); have nbw : gb ≠ gw := (by rw [hg]; exact Nat.ne_of_lt (blk_lt (by repeat (first | exact BK.out | refine blk_drewN ?_ _)))); have nwb : gw ≠ gb := Ne.symm nbw; have HGW : Aside0 (w.heap.size ≤ gw) := (⟨by rw [hg]; exact below_size (show Below w.heap.size w _ from by repeat (first | exact HB.out | refine pw_below_drewN ?_ _))⟩); clear hb hbox hg)
    | ((with_reducible refine gate_store (t := 29) (p := 4) rfl ?_); refine store_whole 29 4 _ rfl rfl rfl gw [.int .i64 2, .int .i64 F, .int .i64 0, .int .i64 J, .int .i64 0, .int .i64 0, .int .i64 0, .int .i64 0, .int .u32 0, .int .i64 0, .string (⟨#[]⟩ : ByteArray)] BW.out rfl rfl rfl mrInfo rfl (by simp [Value.oneCell']) HBA.out HGA.out ?_; intro w6 hbw hB6; have n0_ := Aside0.mk (blk_below (by repeat (first | exact BK.out | refine blk_drewN ?_ _)) hB6); have n1_ := Aside0.mk (below_step (show Below w.heap.size w _ from by repeat (first | exact HB.out | refine pw_below_drewN ?_ _)) hB6); clear BK HB BW HBA HGA hz0 hz1 hz2 hz3 hz4 hz5 hz6 hz7 hz8 hz9 hz10 hzf; have BK := n0_; have HB := n1_; have BW := Aside0.mk hbw; clear n0_ n1_ hB6 hbw; obtain ⟨hz0, hz1, hz2, hz3, hz4, hz5, hz6, hz7, hz8, hz9, hz10⟩ := cells11 BK.out; obtain ⟨hw0, hw1, hw2, hw3, hw4, hw5, hw6, hw7, hw8, hw9, hw10⟩ := cells11 BW.out; have hwf := fun i_ => blk_frozen BW.out i_)
    | (go_at_call 34; (with_reducible refine (thresherref0_Num.calls F 3 _ _ HX.out).mono ?_); rintro e w' ⟨rfl, ⟨nd, rfl⟩⟩)
    | (go_at_call 34; (with_reducible refine (thresherref0_Num.calls 0 3 _ _ rfl).mono ?_); rintro e w' ⟨rfl, ⟨nd, rfl⟩⟩)
    | (go_at_call 35; (with_reducible refine (thresherref0_ID.calls J _ _ HJ.out).mono ?_); rintro e w' ⟨rfl, ⟨nd, rfl⟩⟩)
    | (go_at_call 35; (with_reducible refine (thresherref0_ID.calls S _ _ HS.out).mono ?_); rintro e w' ⟨rfl, ⟨nd, rfl⟩⟩)
    | (go_at_call 34; (with_reducible refine (thresherref0_Num.calls L 32768 _ _ HL.out).mono ?_); rintro e w' ⟨rfl, ⟨nd, rfl⟩⟩)
    | (go_at_call 34; (with_reducible refine (thresherref0_Num.calls O L _ _ HO.out).mono ?_); rintro e w' ⟨rfl, ⟨nd, rfl⟩⟩))
  go_region_held3 (fun w' => w'.cell? ⟨gb, 4, none⟩ = some (.int .i64 S) ∧ w'.cell? ⟨gb, 5, none⟩ = some (.int .i64 E)) (first | go_keep | exact ⟨by simp [*], by simp [*]⟩) (fail)
  have m0 := Aside0.mk (blk_far (p := ⟨gw, 5, none⟩) (blk_far (p := ⟨gw, 4, none⟩) (blk_drewN BK.out (nd + 1)) nbw (.int .i64 S)) nbw (.int .i64 E))
  have m1 : Aside0 ((((w6.drewN (nd + 1)).setCell ⟨gw, 4, none⟩ (.int .i64 S)).setCell ⟨gw, 5, none⟩ (.int .i64 E)).heap[gw]? = some (.cells #[.int .i64 2, .int .i64 F, .int .i64 0, .int .i64 J, .int .i64 S, .int .i64 E, .int .i64 0, .int .i64 0, .int .u32 0, .int .i64 0, .string (⟨#[]⟩ : ByteArray)] 29 (0, 0))) := ⟨blk_put (blk_put (blk_drewN BW.out _) 4 _ rfl) 5 _ rfl⟩
  have m2 : Aside0 (Below w.heap.size w (((w6.drewN (nd + 1)).setCell ⟨gw, 4, none⟩ (.int .i64 S)).setCell ⟨gw, 5, none⟩ (.int .i64 E))) := ⟨below_set (below_set (pw_below_drewN HB.out _) HGW.out) HGW.out⟩
  clear BK HB BW hz0 hz1 hz2 hz3 hz4 hz5 hz6 hz7 hz8 hz9 hz10 hw0 hw1 hw2 hw3 hw4 hw5 hw6 hw7 hw8 hw9 hw10 hwf
  generalize (((w6.drewN (nd + 1)).setCell ⟨gw, 4, none⟩ (.int .i64 S)).setCell ⟨gw, 5, none⟩ (.int .i64 E)) = w7 at *
  have BK := m0
  have BW := m1
  have HB := m2
  clear m0 m1 m2
  obtain ⟨hz0, hz1, hz2, hz3, hz4, hz5, hz6, hz7, hz8, hz9, hz10⟩ := cells11 BK.out
  obtain ⟨hw0, hw1, hw2, hw3, hw4, hw5, hw6, hw7, hw8, hw9, hw10⟩ := cells11 BW.out
  have hwf := fun i_ => blk_frozen BW.out i_
  go_wp2_with (first
    | (go_at_call 34; (with_reducible refine (thresherref0_Num.calls F 3 _ _ HX.out).mono ?_); rintro e w' ⟨rfl, ⟨nd, rfl⟩⟩)
    | (go_at_call 34; (with_reducible refine (thresherref0_Num.calls 0 3 _ _ rfl).mono ?_); rintro e w' ⟨rfl, ⟨nd, rfl⟩⟩)
    | (go_at_call 35; (with_reducible refine (thresherref0_ID.calls J _ _ HJ.out).mono ?_); rintro e w' ⟨rfl, ⟨nd, rfl⟩⟩)
    | (go_at_call 35; (with_reducible refine (thresherref0_ID.calls S _ _ HS.out).mono ?_); rintro e w' ⟨rfl, ⟨nd, rfl⟩⟩)
    | (go_at_call 34; (with_reducible refine (thresherref0_Num.calls L 32768 _ _ HL.out).mono ?_); rintro e w' ⟨rfl, ⟨nd, rfl⟩⟩)
    | (go_at_call 34; (with_reducible refine (thresherref0_Num.calls O L _ _ HO.out).mono ?_); rintro e w' ⟨rfl, ⟨nd, rfl⟩⟩))
  go_region_held3 (fun w' => w'.cell? ⟨gb, 6, none⟩ = some (.int .i64 O) ∧ w'.cell? ⟨gb, 7, none⟩ = some (.int .i64 L) ∧ w'.cell? ⟨gb, 8, none⟩ = some (.int .u32 U) ∧ w'.cell? ⟨gb, 10, none⟩ = some (.string D)) (refine ⟨?_, ?_, ?_, ?_⟩ <;> (repeat (first | (with_reducible assumption) | (with_reducible refine (mrDrew _ _).trans ?_) | (with_reducible refine (cell_far nbw _).trans ?_)))) (fail)
  all_goals
    go_wp2_with (first
      | (go_at_call 34; (with_reducible refine (thresherref0_Num.calls F 3 _ _ HX.out).mono ?_); rintro e w' ⟨rfl, ⟨nd, rfl⟩⟩)
      | (go_at_call 34; (with_reducible refine (thresherref0_Num.calls 0 3 _ _ rfl).mono ?_); rintro e w' ⟨rfl, ⟨nd, rfl⟩⟩)
      | (go_at_call 35; (with_reducible refine (thresherref0_ID.calls J _ _ HJ.out).mono ?_); rintro e w' ⟨rfl, ⟨nd, rfl⟩⟩)
      | (go_at_call 35; (with_reducible refine (thresherref0_ID.calls S _ _ HS.out).mono ?_); rintro e w' ⟨rfl, ⟨nd, rfl⟩⟩)
      | (go_at_call 34; (with_reducible refine (thresherref0_Num.calls L 32768 _ _ HL.out).mono ?_); rintro e w' ⟨rfl, ⟨nd, rfl⟩⟩)
      | (go_at_call 34; (with_reducible refine (thresherref0_Num.calls O L _ _ HO.out).mono ?_); rintro e w' ⟨rfl, ⟨nd, rfl⟩⟩))
    go_ret
    exact ⟨by first | rfl | simp, by repeat (first | (with_reducible first | exact HB.out | refine pw_below_drewN ?_ _ | refine below_drew1 ?_ | refine below_set ?_ HGW.out) | exact HB.out)⟩
set_option maxHeartbeats 16000000 in
set_option maxRecDepth 100000 in
theorem mrGood30 (T : Int) (J S E O L U C : Int) (D : ByteArray) (w : World) (h : thresherref0_Num.f T 3 = some true) (hT : T ≠ 0) (hJ : thresherref0_ID.f J = some true) (H : thresherref0_ID.f S = some false) :
    Calls Try.prog 22 #[.agg #[.int .i64 3, .int .i64 0, .int .i64 T, .int .i64 J, .int .i64 S, .int .i64 E, .int .i64 O, .int .i64 L, .int .u32 U, .int .i64 C, .string D]] w fun e w' => e = .returned (.bool false) ∧ Below w.heap.size w w' := by
  have hu29 := Try.underlying29
  have HB := Aside0.mk (Below.refl w.heap.size w)
  have HX := Aside0.mk h
  clear h
  have HJ := Aside0.mk hJ
  clear hJ
  have hT1 : (T == 0) = false := beq_eq_false_iff_ne.mpr hT
  have hT2 : (T != 0) = true := bne_iff_ne.mpr hT
  clear hT
  have h1 := H
  clear H
  have HS := Aside0.mk h1
  clear h1
  go_enter Try.func22, Try.ntmps22
  go_wp2_with (first
    | ((with_reducible refine gate_dst (N := 1) rfl ?_); refine box_event ?hg (N := 1) ?hd (cs := #[.int .i64 3, .int .i64 0, .int .i64 T, .int .i64 J, .int .i64 S, .int .i64 E, .int .i64 O, .int .i64 L, .int .u32 U, .int .i64 C, .string D]) (t := 29) ?hr ?_; (case hd => rfl); (case hg => rfl); (case hr => first | (go_simp; done) | (go_simp; rfl)); intro gb hg w2 hbox hb; have n0_ := Aside0.mk (below_step HB.out hb); have BK := Aside0.mk hbox; clear HB; have HB := n0_; clear n0_; clear hb hbox hg; obtain ⟨hz0, hz1, hz2, hz3, hz4, hz5, hz6, hz7, hz8, hz9, hz10⟩ := cells11 BK.out; have hzf := fun i_ => blk_frozen BK.out i_)
    | ((with_reducible refine gate_dst (N := 4) rfl ?_); refine box_event ?hg (N := 4) ?hd (cs := #[.int .i64 0, .int .i64 0, .int .i64 0, .int .i64 0, .int .i64 0, .int .i64 0, .int .i64 0, .int .i64 0, .int .u32 0, .int .i64 0, .string (⟨#[]⟩ : ByteArray)]) (t := 29) ?hr ?_; (case hd => rfl); (case hg => rfl); (case hr => first | (go_simp; done) | (go_simp; rfl)); intro gw hg w5 hbox hb; have BW := Aside0.mk hbox; have HBA := Aside0.mk hb; have HGA := Aside0.mk (Nat.le_of_eq hg.symm); have nbw : gb ≠ gw := (by rw [hg]; exact Nat.ne_of_lt (blk_lt (by repeat (first | exact BK.out | refine blk_drewN ?_ _)))); have nwb : gw ≠ gb := Ne.symm nbw; have HGW : Aside0 (w.heap.size ≤ gw) := (⟨by rw [hg]; exact below_size (show Below w.heap.size w _ from by repeat (first | exact HB.out | refine pw_below_drewN ?_ _))⟩); clear hb hbox hg)
    | ((with_reducible refine gate_store (t := 29) (p := 4) rfl ?_); refine store_whole 29 4 _ rfl rfl rfl gw [.int .i64 3, .int .i64 0, .int .i64 T, .int .i64 J, .int .i64 0, .int .i64 0, .int .i64 0, .int .i64 0, .int .u32 0, .int .i64 0, .string (⟨#[]⟩ : ByteArray)] BW.out rfl rfl rfl mrInfo rfl (by simp [Value.oneCell']) HBA.out HGA.out ?_; intro w6 hbw hB6; have n0_ := Aside0.mk (blk_below (by repeat (first | exact BK.out | refine blk_drewN ?_ _)) hB6); have n1_ := Aside0.mk (below_step (show Below w.heap.size w _ from by repeat (first | exact HB.out | refine pw_below_drewN ?_ _)) hB6); clear BK HB BW HBA HGA hz0 hz1 hz2 hz3 hz4 hz5 hz6 hz7 hz8 hz9 hz10 hzf; have BK := n0_; have HB := n1_; have BW := Aside0.mk hbw; clear n0_ n1_ hB6 hbw; obtain ⟨hz0, hz1, hz2, hz3, hz4, hz5, hz6, hz7, hz8, hz9, hz10⟩ := cells11 BK.out; obtain ⟨hw0, hw1, hw2, hw3, hw4, hw5, hw6, hw7, hw8, hw9, hw10⟩ := cells11 BW.out; have hwf := fun i_ => blk_frozen BW.out i_)
    | (go_at_call 34; (with_reducible refine (thresherref0_Num.calls T 3 _ _ HX.out).mono ?_); rintro e w' ⟨rfl, ⟨nd, rfl⟩⟩)
    | (go_at_call 34; (with_reducible refine (thresherref0_Num.calls 0 3 _ _ rfl).mono ?_); rintro e w' ⟨rfl, ⟨nd, rfl⟩⟩)
    | (go_at_call 35; (with_reducible refine (thresherref0_ID.calls J _ _ HJ.out).mono ?_); rintro e w' ⟨rfl, ⟨nd, rfl⟩⟩)
    | (go_at_call 35; (with_reducible refine (thresherref0_ID.calls S _ _ HS.out).mono ?_); rintro e w' ⟨rfl, ⟨nd, rfl⟩⟩)
    | (go_at_call 34; (with_reducible refine (thresherref0_Num.calls O 32768 _ _ HO.out).mono ?_); rintro e w' ⟨rfl, ⟨nd, rfl⟩⟩))
  go_ret
  exact ⟨by first | rfl | simp, by repeat (first | (with_reducible first | exact HB.out | refine pw_below_drewN ?_ _ | refine below_drew1 ?_ | refine below_set ?_ HGW.out) | exact HB.out)⟩
set_option maxHeartbeats 16000000 in
set_option maxRecDepth 100000 in
theorem mrGood31 (T : Int) (J S E O L U C : Int) (D : ByteArray) (w : World) (h : thresherref0_Num.f T 3 = some true) (hT : T ≠ 0) (hJ : thresherref0_ID.f J = some true) (H : thresherref0_ID.f S = some true ∧ E < 1) :
    Calls Try.prog 22 #[.agg #[.int .i64 3, .int .i64 0, .int .i64 T, .int .i64 J, .int .i64 S, .int .i64 E, .int .i64 O, .int .i64 L, .int .u32 U, .int .i64 C, .string D]] w fun e w' => e = .returned (.bool false) ∧ Below w.heap.size w w' := by
  have hu29 := Try.underlying29
  have HB := Aside0.mk (Below.refl w.heap.size w)
  have HX := Aside0.mk h
  clear h
  have HJ := Aside0.mk hJ
  clear hJ
  have hT1 : (T == 0) = false := beq_eq_false_iff_ne.mpr hT
  have hT2 : (T != 0) = true := bne_iff_ne.mpr hT
  clear hT
  obtain ⟨h1, h2⟩ := H
  have HS := Aside0.mk h1
  have q1 : decide (E < 1) = true := decide_eq_true h2
  clear h1 h2
  go_enter Try.func22, Try.ntmps22
  go_wp2_with (first
    | ((with_reducible refine gate_dst (N := 1) rfl ?_); refine box_event ?hg (N := 1) ?hd (cs := #[.int .i64 3, .int .i64 0, .int .i64 T, .int .i64 J, .int .i64 S, .int .i64 E, .int .i64 O, .int .i64 L, .int .u32 U, .int .i64 C, .string D]) (t := 29) ?hr ?_; (case hd => rfl); (case hg => rfl); (case hr => first | (go_simp; done) | (go_simp; rfl)); intro gb hg w2 hbox hb; have n0_ := Aside0.mk (below_step HB.out hb); have BK := Aside0.mk hbox; clear HB; have HB := n0_; clear n0_; clear hb hbox hg; obtain ⟨hz0, hz1, hz2, hz3, hz4, hz5, hz6, hz7, hz8, hz9, hz10⟩ := cells11 BK.out; have hzf := fun i_ => blk_frozen BK.out i_)
    | ((with_reducible refine gate_dst (N := 4) rfl ?_); refine box_event ?hg (N := 4) ?hd (cs := #[.int .i64 0, .int .i64 0, .int .i64 0, .int .i64 0, .int .i64 0, .int .i64 0, .int .i64 0, .int .i64 0, .int .u32 0, .int .i64 0, .string (⟨#[]⟩ : ByteArray)]) (t := 29) ?hr ?_; (case hd => rfl); (case hg => rfl); (case hr => first | (go_simp; done) | (go_simp; rfl)); intro gw hg w5 hbox hb; have BW := Aside0.mk hbox; have HBA := Aside0.mk hb; have HGA := Aside0.mk (Nat.le_of_eq hg.symm); have nbw : gb ≠ gw := (by rw [hg]; exact Nat.ne_of_lt (blk_lt (by repeat (first | exact BK.out | refine blk_drewN ?_ _)))); have nwb : gw ≠ gb := Ne.symm nbw; have HGW : Aside0 (w.heap.size ≤ gw) := (⟨by rw [hg]; exact below_size (show Below w.heap.size w _ from by repeat (first | exact HB.out | refine pw_below_drewN ?_ _))⟩); clear hb hbox hg)
    | ((with_reducible refine gate_store (t := 29) (p := 4) rfl ?_); refine store_whole 29 4 _ rfl rfl rfl gw [.int .i64 3, .int .i64 0, .int .i64 T, .int .i64 J, .int .i64 0, .int .i64 0, .int .i64 0, .int .i64 0, .int .u32 0, .int .i64 0, .string (⟨#[]⟩ : ByteArray)] BW.out rfl rfl rfl mrInfo rfl (by simp [Value.oneCell']) HBA.out HGA.out ?_; intro w6 hbw hB6; have n0_ := Aside0.mk (blk_below (by repeat (first | exact BK.out | refine blk_drewN ?_ _)) hB6); have n1_ := Aside0.mk (below_step (show Below w.heap.size w _ from by repeat (first | exact HB.out | refine pw_below_drewN ?_ _)) hB6); clear BK HB BW HBA HGA hz0 hz1 hz2 hz3 hz4 hz5 hz6 hz7 hz8 hz9 hz10 hzf; have BK := n0_; have HB := n1_; have BW := Aside0.mk hbw; clear n0_ n1_ hB6 hbw; obtain ⟨hz0, hz1, hz2, hz3, hz4, hz5, hz6, hz7, hz8, hz9, hz10⟩ := cells11 BK.out; obtain ⟨hw0, hw1, hw2, hw3, hw4, hw5, hw6, hw7, hw8, hw9, hw10⟩ := cells11 BW.out; have hwf := fun i_ => blk_frozen BW.out i_)
    | (go_at_call 34; (with_reducible refine (thresherref0_Num.calls T 3 _ _ HX.out).mono ?_); rintro e w' ⟨rfl, ⟨nd, rfl⟩⟩)
    | (go_at_call 34; (with_reducible refine (thresherref0_Num.calls 0 3 _ _ rfl).mono ?_); rintro e w' ⟨rfl, ⟨nd, rfl⟩⟩)
    | (go_at_call 35; (with_reducible refine (thresherref0_ID.calls J _ _ HJ.out).mono ?_); rintro e w' ⟨rfl, ⟨nd, rfl⟩⟩)
    | (go_at_call 35; (with_reducible refine (thresherref0_ID.calls S _ _ HS.out).mono ?_); rintro e w' ⟨rfl, ⟨nd, rfl⟩⟩)
    | (go_at_call 34; (with_reducible refine (thresherref0_Num.calls O 32768 _ _ HO.out).mono ?_); rintro e w' ⟨rfl, ⟨nd, rfl⟩⟩))
  go_ret
  exact ⟨by first | rfl | simp, by repeat (first | (with_reducible first | exact HB.out | refine pw_below_drewN ?_ _ | refine below_drew1 ?_ | refine below_set ?_ HGW.out) | exact HB.out)⟩
set_option maxHeartbeats 16000000 in
set_option maxRecDepth 100000 in
theorem mrGood32 (T : Int) (J S E O L U C : Int) (D : ByteArray) (w : World) (h : thresherref0_Num.f T 3 = some true) (hT : T ≠ 0) (hJ : thresherref0_ID.f J = some true) (H : thresherref0_ID.f S = some true ∧ 1048576 < E) :
    Calls Try.prog 22 #[.agg #[.int .i64 3, .int .i64 0, .int .i64 T, .int .i64 J, .int .i64 S, .int .i64 E, .int .i64 O, .int .i64 L, .int .u32 U, .int .i64 C, .string D]] w fun e w' => e = .returned (.bool false) ∧ Below w.heap.size w w' := by
  have hu29 := Try.underlying29
  have HB := Aside0.mk (Below.refl w.heap.size w)
  have HX := Aside0.mk h
  clear h
  have HJ := Aside0.mk hJ
  clear hJ
  have hT1 : (T == 0) = false := beq_eq_false_iff_ne.mpr hT
  have hT2 : (T != 0) = true := bne_iff_ne.mpr hT
  clear hT
  obtain ⟨h1, h2⟩ := H
  have HS := Aside0.mk h1
  have q1 : decide (E < 1) = false := decide_eq_false (by omega)
  have q2 : decide (1048576 < E) = true := decide_eq_true h2
  have q3 : decide (E > 1048576) = true := decide_eq_true h2
  clear h1 h2
  go_enter Try.func22, Try.ntmps22
  go_wp2_with (first
    | ((with_reducible refine gate_dst (N := 1) rfl ?_); refine box_event ?hg (N := 1) ?hd (cs := #[.int .i64 3, .int .i64 0, .int .i64 T, .int .i64 J, .int .i64 S, .int .i64 E, .int .i64 O, .int .i64 L, .int .u32 U, .int .i64 C, .string D]) (t := 29) ?hr ?_; (case hd => rfl); (case hg => rfl); (case hr => first | (go_simp; done) | (go_simp; rfl)); intro gb hg w2 hbox hb; have n0_ := Aside0.mk (below_step HB.out hb); have BK := Aside0.mk hbox; clear HB; have HB := n0_; clear n0_; clear hb hbox hg; obtain ⟨hz0, hz1, hz2, hz3, hz4, hz5, hz6, hz7, hz8, hz9, hz10⟩ := cells11 BK.out; have hzf := fun i_ => blk_frozen BK.out i_)
    | ((with_reducible refine gate_dst (N := 4) rfl ?_); refine box_event ?hg (N := 4) ?hd (cs := #[.int .i64 0, .int .i64 0, .int .i64 0, .int .i64 0, .int .i64 0, .int .i64 0, .int .i64 0, .int .i64 0, .int .u32 0, .int .i64 0, .string (⟨#[]⟩ : ByteArray)]) (t := 29) ?hr ?_; (case hd => rfl); (case hg => rfl); (case hr => first | (go_simp; done) | (go_simp; rfl)); intro gw hg w5 hbox hb; have BW := Aside0.mk hbox; have HBA := Aside0.mk hb; have HGA := Aside0.mk (Nat.le_of_eq hg.symm); have nbw : gb ≠ gw := (by rw [hg]; exact Nat.ne_of_lt (blk_lt (by repeat (first | exact BK.out | refine blk_drewN ?_ _)))); have nwb : gw ≠ gb := Ne.symm nbw; have HGW : Aside0 (w.heap.size ≤ gw) := (⟨by rw [hg]; exact below_size (show Below w.heap.size w _ from by repeat (first | exact HB.out | refine pw_below_drewN ?_ _))⟩); clear hb hbox hg)
    | ((with_reducible refine gate_store (t := 29) (p := 4) rfl ?_); refine store_whole 29 4 _ rfl rfl rfl gw [.int .i64 3, .int .i64 0, .int .i64 T, .int .i64 J, .int .i64 0, .int .i64 0, .int .i64 0, .int .i64 0, .int .u32 0, .int .i64 0, .string (⟨#[]⟩ : ByteArray)] BW.out rfl rfl rfl mrInfo rfl (by simp [Value.oneCell']) HBA.out HGA.out ?_; intro w6 hbw hB6; have n0_ := Aside0.mk (blk_below (by repeat (first | exact BK.out | refine blk_drewN ?_ _)) hB6); have n1_ := Aside0.mk (below_step (show Below w.heap.size w _ from by repeat (first | exact HB.out | refine pw_below_drewN ?_ _)) hB6); clear BK HB BW HBA HGA hz0 hz1 hz2 hz3 hz4 hz5 hz6 hz7 hz8 hz9 hz10 hzf; have BK := n0_; have HB := n1_; have BW := Aside0.mk hbw; clear n0_ n1_ hB6 hbw; obtain ⟨hz0, hz1, hz2, hz3, hz4, hz5, hz6, hz7, hz8, hz9, hz10⟩ := cells11 BK.out; obtain ⟨hw0, hw1, hw2, hw3, hw4, hw5, hw6, hw7, hw8, hw9, hw10⟩ := cells11 BW.out; have hwf := fun i_ => blk_frozen BW.out i_)
    | (go_at_call 34; (with_reducible refine (thresherref0_Num.calls T 3 _ _ HX.out).mono ?_); rintro e w' ⟨rfl, ⟨nd, rfl⟩⟩)
    | (go_at_call 34; (with_reducible refine (thresherref0_Num.calls 0 3 _ _ rfl).mono ?_); rintro e w' ⟨rfl, ⟨nd, rfl⟩⟩)
    | (go_at_call 35; (with_reducible refine (thresherref0_ID.calls J _ _ HJ.out).mono ?_); rintro e w' ⟨rfl, ⟨nd, rfl⟩⟩)
    | (go_at_call 35; (with_reducible refine (thresherref0_ID.calls S _ _ HS.out).mono ?_); rintro e w' ⟨rfl, ⟨nd, rfl⟩⟩)
    | (go_at_call 34; (with_reducible refine (thresherref0_Num.calls O 32768 _ _ HO.out).mono ?_); rintro e w' ⟨rfl, ⟨nd, rfl⟩⟩))
  go_ret
  exact ⟨by first | rfl | simp, by repeat (first | (with_reducible first | exact HB.out | refine pw_below_drewN ?_ _ | refine below_drew1 ?_ | refine below_set ?_ HGW.out) | exact HB.out)⟩
set_option maxHeartbeats 16000000 in
set_option maxRecDepth 100000 in
theorem mrGood33 (T : Int) (J S E O L U C : Int) (D : ByteArray) (w : World) (h : thresherref0_Num.f T 3 = some true) (hT : T ≠ 0) (hJ : thresherref0_ID.f J = some true) (H : thresherref0_ID.f S = some true ∧ (1 ≤ E ∧ E ≤ 1048576) ∧ thresherref0_Num.f O 32768 = some false) :
    Calls Try.prog 22 #[.agg #[.int .i64 3, .int .i64 0, .int .i64 T, .int .i64 J, .int .i64 S, .int .i64 E, .int .i64 O, .int .i64 L, .int .u32 U, .int .i64 C, .string D]] w fun e w' => e = .returned (.bool false) ∧ Below w.heap.size w w' := by
  have hu29 := Try.underlying29
  have HB := Aside0.mk (Below.refl w.heap.size w)
  have HX := Aside0.mk h
  clear h
  have HJ := Aside0.mk hJ
  clear hJ
  have hT1 : (T == 0) = false := beq_eq_false_iff_ne.mpr hT
  have hT2 : (T != 0) = true := bne_iff_ne.mpr hT
  clear hT
  obtain ⟨h1, h2, h3⟩ := H
  have HS := Aside0.mk h1
  have q1 : decide (E < 1) = false := decide_eq_false (by omega)
  have q2 : decide (1048576 < E) = false := decide_eq_false (by omega)
  have q3 : decide (E > 1048576) = false := decide_eq_false (by omega)
  clear h1 h2
  have HO := Aside0.mk h3
  clear h3
  go_enter Try.func22, Try.ntmps22
  go_wp2_with (first
    | ((with_reducible refine gate_dst (N := 1) rfl ?_); refine box_event ?hg (N := 1) ?hd (cs := #[.int .i64 3, .int .i64 0, .int .i64 T, .int .i64 J, .int .i64 S, .int .i64 E, .int .i64 O, .int .i64 L, .int .u32 U, .int .i64 C, .string D]) (t := 29) ?hr ?_; (case hd => rfl); (case hg => rfl); (case hr => first | (go_simp; done) | (go_simp; rfl)); intro gb hg w2 hbox hb; have n0_ := Aside0.mk (below_step HB.out hb); have BK := Aside0.mk hbox; clear HB; have HB := n0_; clear n0_; clear hb hbox hg; obtain ⟨hz0, hz1, hz2, hz3, hz4, hz5, hz6, hz7, hz8, hz9, hz10⟩ := cells11 BK.out; have hzf := fun i_ => blk_frozen BK.out i_)
    | ((with_reducible refine gate_dst (N := 4) rfl ?_); refine box_event ?hg (N := 4) ?hd (cs := #[.int .i64 0, .int .i64 0, .int .i64 0, .int .i64 0, .int .i64 0, .int .i64 0, .int .i64 0, .int .i64 0, .int .u32 0, .int .i64 0, .string (⟨#[]⟩ : ByteArray)]) (t := 29) ?hr ?_; (case hd => rfl); (case hg => rfl); (case hr => first | (go_simp; done) | (go_simp; rfl)); intro gw hg w5 hbox hb; have BW := Aside0.mk hbox; have HBA := Aside0.mk hb; have HGA := Aside0.mk (Nat.le_of_eq hg.symm); have nbw : gb ≠ gw := (by rw [hg]; exact Nat.ne_of_lt (blk_lt (by repeat (first | exact BK.out | refine blk_drewN ?_ _)))); have nwb : gw ≠ gb := Ne.symm nbw; have HGW : Aside0 (w.heap.size ≤ gw) := (⟨by rw [hg]; exact below_size (show Below w.heap.size w _ from by repeat (first | exact HB.out | refine pw_below_drewN ?_ _))⟩); clear hb hbox hg)
    | ((with_reducible refine gate_store (t := 29) (p := 4) rfl ?_); refine store_whole 29 4 _ rfl rfl rfl gw [.int .i64 3, .int .i64 0, .int .i64 T, .int .i64 J, .int .i64 0, .int .i64 0, .int .i64 0, .int .i64 0, .int .u32 0, .int .i64 0, .string (⟨#[]⟩ : ByteArray)] BW.out rfl rfl rfl mrInfo rfl (by simp [Value.oneCell']) HBA.out HGA.out ?_; intro w6 hbw hB6; have n0_ := Aside0.mk (blk_below (by repeat (first | exact BK.out | refine blk_drewN ?_ _)) hB6); have n1_ := Aside0.mk (below_step (show Below w.heap.size w _ from by repeat (first | exact HB.out | refine pw_below_drewN ?_ _)) hB6); clear BK HB BW HBA HGA hz0 hz1 hz2 hz3 hz4 hz5 hz6 hz7 hz8 hz9 hz10 hzf; have BK := n0_; have HB := n1_; have BW := Aside0.mk hbw; clear n0_ n1_ hB6 hbw; obtain ⟨hz0, hz1, hz2, hz3, hz4, hz5, hz6, hz7, hz8, hz9, hz10⟩ := cells11 BK.out; obtain ⟨hw0, hw1, hw2, hw3, hw4, hw5, hw6, hw7, hw8, hw9, hw10⟩ := cells11 BW.out; have hwf := fun i_ => blk_frozen BW.out i_)
    | (go_at_call 34; (with_reducible refine (thresherref0_Num.calls T 3 _ _ HX.out).mono ?_); rintro e w' ⟨rfl, ⟨nd, rfl⟩⟩)
    | (go_at_call 34; (with_reducible refine (thresherref0_Num.calls 0 3 _ _ rfl).mono ?_); rintro e w' ⟨rfl, ⟨nd, rfl⟩⟩)
    | (go_at_call 35; (with_reducible refine (thresherref0_ID.calls J _ _ HJ.out).mono ?_); rintro e w' ⟨rfl, ⟨nd, rfl⟩⟩)
    | (go_at_call 35; (with_reducible refine (thresherref0_ID.calls S _ _ HS.out).mono ?_); rintro e w' ⟨rfl, ⟨nd, rfl⟩⟩)
    | (go_at_call 34; (with_reducible refine (thresherref0_Num.calls O 32768 _ _ HO.out).mono ?_); rintro e w' ⟨rfl, ⟨nd, rfl⟩⟩))
  go_region_held3 (fun w' => w'.cell? ⟨gb, 4, none⟩ = some (.int .i64 S) ∧ w'.cell? ⟨gb, 5, none⟩ = some (.int .i64 E)) (first | go_keep | exact ⟨by simp [*], by simp [*]⟩) (fail)
  have m0 := Aside0.mk (blk_far (p := ⟨gw, 5, none⟩) (blk_far (p := ⟨gw, 4, none⟩) (blk_drewN BK.out (nd + 1)) nbw (.int .i64 S)) nbw (.int .i64 E))
  have m1 : Aside0 ((((w6.drewN (nd + 1)).setCell ⟨gw, 4, none⟩ (.int .i64 S)).setCell ⟨gw, 5, none⟩ (.int .i64 E)).heap[gw]? = some (.cells #[.int .i64 3, .int .i64 0, .int .i64 T, .int .i64 J, .int .i64 S, .int .i64 E, .int .i64 0, .int .i64 0, .int .u32 0, .int .i64 0, .string (⟨#[]⟩ : ByteArray)] 29 (0, 0))) := ⟨blk_put (blk_put (blk_drewN BW.out _) 4 _ rfl) 5 _ rfl⟩
  have m2 : Aside0 (Below w.heap.size w (((w6.drewN (nd + 1)).setCell ⟨gw, 4, none⟩ (.int .i64 S)).setCell ⟨gw, 5, none⟩ (.int .i64 E))) := ⟨below_set (below_set (pw_below_drewN HB.out _) HGW.out) HGW.out⟩
  clear BK HB BW hz0 hz1 hz2 hz3 hz4 hz5 hz6 hz7 hz8 hz9 hz10 hw0 hw1 hw2 hw3 hw4 hw5 hw6 hw7 hw8 hw9 hw10 hwf
  generalize (((w6.drewN (nd + 1)).setCell ⟨gw, 4, none⟩ (.int .i64 S)).setCell ⟨gw, 5, none⟩ (.int .i64 E)) = w7 at *
  have BK := m0
  have BW := m1
  have HB := m2
  clear m0 m1 m2
  obtain ⟨hz0, hz1, hz2, hz3, hz4, hz5, hz6, hz7, hz8, hz9, hz10⟩ := cells11 BK.out
  obtain ⟨hw0, hw1, hw2, hw3, hw4, hw5, hw6, hw7, hw8, hw9, hw10⟩ := cells11 BW.out
  have hwf := fun i_ => blk_frozen BW.out i_
  go_wp2_with (first
    | (go_at_call 34; (with_reducible refine (thresherref0_Num.calls T 3 _ _ HX.out).mono ?_); rintro e w' ⟨rfl, ⟨nd, rfl⟩⟩)
    | (go_at_call 34; (with_reducible refine (thresherref0_Num.calls 0 3 _ _ rfl).mono ?_); rintro e w' ⟨rfl, ⟨nd, rfl⟩⟩)
    | (go_at_call 35; (with_reducible refine (thresherref0_ID.calls J _ _ HJ.out).mono ?_); rintro e w' ⟨rfl, ⟨nd, rfl⟩⟩)
    | (go_at_call 35; (with_reducible refine (thresherref0_ID.calls S _ _ HS.out).mono ?_); rintro e w' ⟨rfl, ⟨nd, rfl⟩⟩)
    | (go_at_call 34; (with_reducible refine (thresherref0_Num.calls O 32768 _ _ HO.out).mono ?_); rintro e w' ⟨rfl, ⟨nd, rfl⟩⟩))
  go_ret
  exact ⟨by first | rfl | simp, by repeat (first | (with_reducible first | exact HB.out | refine pw_below_drewN ?_ _ | refine below_drew1 ?_ | refine below_set ?_ HGW.out) | exact HB.out)⟩
set_option maxHeartbeats 16000000 in
set_option maxRecDepth 100000 in
theorem mrGood34 (T : Int) (J S E O L U C : Int) (D : ByteArray) (w : World) (h : thresherref0_Num.f T 3 = some true) (hT : T ≠ 0) (hJ : thresherref0_ID.f J = some true) (H : thresherref0_ID.f S = some true ∧ (1 ≤ E ∧ E ≤ 1048576) ∧ thresherref0_Num.f O 32768 = some true) :
    Calls Try.prog 22 #[.agg #[.int .i64 3, .int .i64 0, .int .i64 T, .int .i64 J, .int .i64 S, .int .i64 E, .int .i64 O, .int .i64 L, .int .u32 U, .int .i64 C, .string D]] w fun e w' => e = .returned (.bool (L == 0 && (U == 0 && (C == 0 && D.toList.isEmpty)))) ∧ Below w.heap.size w w' := by
  have hu29 := Try.underlying29
  have HB := Aside0.mk (Below.refl w.heap.size w)
  have HX := Aside0.mk h
  clear h
  have HJ := Aside0.mk hJ
  clear hJ
  have hT1 : (T == 0) = false := beq_eq_false_iff_ne.mpr hT
  have hT2 : (T != 0) = true := bne_iff_ne.mpr hT
  clear hT
  obtain ⟨h1, h2, h3⟩ := H
  have HS := Aside0.mk h1
  have q1 : decide (E < 1) = false := decide_eq_false (by omega)
  have q2 : decide (1048576 < E) = false := decide_eq_false (by omega)
  have q3 : decide (E > 1048576) = false := decide_eq_false (by omega)
  clear h1 h2
  have HO := Aside0.mk h3
  clear h3
  go_enter Try.func22, Try.ntmps22
  go_wp2_with (first
    | ((with_reducible refine gate_dst (N := 1) rfl ?_); refine box_event ?hg (N := 1) ?hd (cs := #[.int .i64 3, .int .i64 0, .int .i64 T, .int .i64 J, .int .i64 S, .int .i64 E, .int .i64 O, .int .i64 L, .int .u32 U, .int .i64 C, .string D]) (t := 29) ?hr ?_; (case hd => rfl); (case hg => rfl); (case hr => first | (go_simp; done) | (go_simp; rfl)); intro gb hg w2 hbox hb; have n0_ := Aside0.mk (below_step HB.out hb); have BK := Aside0.mk hbox; clear HB; have HB := n0_; clear n0_; clear hb hbox hg; obtain ⟨hz0, hz1, hz2, hz3, hz4, hz5, hz6, hz7, hz8, hz9, hz10⟩ := cells11 BK.out; have hzf := fun i_ => blk_frozen BK.out i_)
    | ((with_reducible refine gate_dst (N := 4) rfl ?_); refine box_event ?hg (N := 4) ?hd (cs := #[.int .i64 0, .int .i64 0, .int .i64 0, .int .i64 0, .int .i64 0, .int .i64 0, .int .i64 0, .int .i64 0, .int .u32 0, .int .i64 0, .string (⟨#[]⟩ : ByteArray)]) (t := 29) ?hr ?_; (case hd => rfl); (case hg => rfl); (case hr => first | (go_simp; done) | (go_simp; rfl)); intro gw hg w5 hbox hb; have BW := Aside0.mk hbox; have HBA := Aside0.mk hb; have HGA := Aside0.mk (Nat.le_of_eq hg.symm); have nbw : gb ≠ gw := (by rw [hg]; exact Nat.ne_of_lt (blk_lt (by repeat (first | exact BK.out | refine blk_drewN ?_ _)))); have nwb : gw ≠ gb := Ne.symm nbw; have HGW : Aside0 (w.heap.size ≤ gw) := (⟨by rw [hg]; exact below_size (show Below w.heap.size w _ from by repeat (first | exact HB.out | refine pw_below_drewN ?_ _))⟩); clear hb hbox hg)
    | ((with_reducible refine gate_store (t := 29) (p := 4) rfl ?_); refine store_whole 29 4 _ rfl rfl rfl gw [.int .i64 3, .int .i64 0, .int .i64 T, .int .i64 J, .int .i64 0, .int .i64 0, .int .i64 0, .int .i64 0, .int .u32 0, .int .i64 0, .string (⟨#[]⟩ : ByteArray)] BW.out rfl rfl rfl mrInfo rfl (by simp [Value.oneCell']) HBA.out HGA.out ?_; intro w6 hbw hB6; have n0_ := Aside0.mk (blk_below (by repeat (first | exact BK.out | refine blk_drewN ?_ _)) hB6); have n1_ := Aside0.mk (below_step (show Below w.heap.size w _ from by repeat (first | exact HB.out | refine pw_below_drewN ?_ _)) hB6); clear BK HB BW HBA HGA hz0 hz1 hz2 hz3 hz4 hz5 hz6 hz7 hz8 hz9 hz10 hzf; have BK := n0_; have HB := n1_; have BW := Aside0.mk hbw; clear n0_ n1_ hB6 hbw; obtain ⟨hz0, hz1, hz2, hz3, hz4, hz5, hz6, hz7, hz8, hz9, hz10⟩ := cells11 BK.out; obtain ⟨hw0, hw1, hw2, hw3, hw4, hw5, hw6, hw7, hw8, hw9, hw10⟩ := cells11 BW.out; have hwf := fun i_ => blk_frozen BW.out i_)
    | (go_at_call 34; (with_reducible refine (thresherref0_Num.calls T 3 _ _ HX.out).mono ?_); rintro e w' ⟨rfl, ⟨nd, rfl⟩⟩)
    | (go_at_call 34; (with_reducible refine (thresherref0_Num.calls 0 3 _ _ rfl).mono ?_); rintro e w' ⟨rfl, ⟨nd, rfl⟩⟩)
    | (go_at_call 35; (with_reducible refine (thresherref0_ID.calls J _ _ HJ.out).mono ?_); rintro e w' ⟨rfl, ⟨nd, rfl⟩⟩)
    | (go_at_call 35; (with_reducible refine (thresherref0_ID.calls S _ _ HS.out).mono ?_); rintro e w' ⟨rfl, ⟨nd, rfl⟩⟩)
    | (go_at_call 34; (with_reducible refine (thresherref0_Num.calls O 32768 _ _ HO.out).mono ?_); rintro e w' ⟨rfl, ⟨nd, rfl⟩⟩))
  go_region_held3 (fun w' => w'.cell? ⟨gb, 4, none⟩ = some (.int .i64 S) ∧ w'.cell? ⟨gb, 5, none⟩ = some (.int .i64 E)) (first | go_keep | exact ⟨by simp [*], by simp [*]⟩) (fail)
  have m0 := Aside0.mk (blk_far (p := ⟨gw, 5, none⟩) (blk_far (p := ⟨gw, 4, none⟩) (blk_drewN BK.out (nd + 1)) nbw (.int .i64 S)) nbw (.int .i64 E))
  have m1 : Aside0 ((((w6.drewN (nd + 1)).setCell ⟨gw, 4, none⟩ (.int .i64 S)).setCell ⟨gw, 5, none⟩ (.int .i64 E)).heap[gw]? = some (.cells #[.int .i64 3, .int .i64 0, .int .i64 T, .int .i64 J, .int .i64 S, .int .i64 E, .int .i64 0, .int .i64 0, .int .u32 0, .int .i64 0, .string (⟨#[]⟩ : ByteArray)] 29 (0, 0))) := ⟨blk_put (blk_put (blk_drewN BW.out _) 4 _ rfl) 5 _ rfl⟩
  have m2 : Aside0 (Below w.heap.size w (((w6.drewN (nd + 1)).setCell ⟨gw, 4, none⟩ (.int .i64 S)).setCell ⟨gw, 5, none⟩ (.int .i64 E))) := ⟨below_set (below_set (pw_below_drewN HB.out _) HGW.out) HGW.out⟩
  clear BK HB BW hz0 hz1 hz2 hz3 hz4 hz5 hz6 hz7 hz8 hz9 hz10 hw0 hw1 hw2 hw3 hw4 hw5 hw6 hw7 hw8 hw9 hw10 hwf
  generalize (((w6.drewN (nd + 1)).setCell ⟨gw, 4, none⟩ (.int .i64 S)).setCell ⟨gw, 5, none⟩ (.int .i64 E)) = w7 at *
  have BK := m0
  have BW := m1
  have HB := m2
  clear m0 m1 m2
  obtain ⟨hz0, hz1, hz2, hz3, hz4, hz5, hz6, hz7, hz8, hz9, hz10⟩ := cells11 BK.out
  obtain ⟨hw0, hw1, hw2, hw3, hw4, hw5, hw6, hw7, hw8, hw9, hw10⟩ := cells11 BW.out
  have hwf := fun i_ => blk_frozen BW.out i_
  go_wp2_with (first
    | (go_at_call 34; (with_reducible refine (thresherref0_Num.calls T 3 _ _ HX.out).mono ?_); rintro e w' ⟨rfl, ⟨nd, rfl⟩⟩)
    | (go_at_call 34; (with_reducible refine (thresherref0_Num.calls 0 3 _ _ rfl).mono ?_); rintro e w' ⟨rfl, ⟨nd, rfl⟩⟩)
    | (go_at_call 35; (with_reducible refine (thresherref0_ID.calls J _ _ HJ.out).mono ?_); rintro e w' ⟨rfl, ⟨nd, rfl⟩⟩)
    | (go_at_call 35; (with_reducible refine (thresherref0_ID.calls S _ _ HS.out).mono ?_); rintro e w' ⟨rfl, ⟨nd, rfl⟩⟩)
    | (go_at_call 34; (with_reducible refine (thresherref0_Num.calls O 32768 _ _ HO.out).mono ?_); rintro e w' ⟨rfl, ⟨nd, rfl⟩⟩))
  go_ret
  exact ⟨by first | rfl | simp, by repeat (first | (with_reducible first | exact HB.out | refine pw_below_drewN ?_ _ | refine below_drew1 ?_ | refine below_set ?_ HGW.out) | exact HB.out)⟩
set_option maxHeartbeats 16000000 in
set_option maxRecDepth 100000 in
theorem mrGood40 (F : Int) (J S E O L U C : Int) (D : ByteArray) (w : World) (h : thresherref0_Num.f F 3 = some true) (hF : F ≠ 0) (hJ : thresherref0_ID.f J = some true) (H : thresherref0_ID.f S = some false) :
    Calls Try.prog 22 #[.agg #[.int .i64 4, .int .i64 F, .int .i64 0, .int .i64 J, .int .i64 S, .int .i64 E, .int .i64 O, .int .i64 L, .int .u32 U, .int .i64 C, .string D]] w fun e w' => e = .returned (.bool false) ∧ Below w.heap.size w w' := by
  have hu29 := Try.underlying29
  have HB := Aside0.mk (Below.refl w.heap.size w)
  have HX := Aside0.mk h
  clear h
  have HJ := Aside0.mk hJ
  clear hJ
  have hF1 : (F == 0) = false := beq_eq_false_iff_ne.mpr hF
  have hF2 : (F != 0) = true := bne_iff_ne.mpr hF
  clear hF
  have h1 := H
  clear H
  have HS := Aside0.mk h1
  clear h1
  go_enter Try.func22, Try.ntmps22
  go_wp2_with (first
    | ((with_reducible refine gate_dst (N := 1) rfl ?_); refine box_event ?hg (N := 1) ?hd (cs := #[.int .i64 4, .int .i64 F, .int .i64 0, .int .i64 J, .int .i64 S, .int .i64 E, .int .i64 O, .int .i64 L, .int .u32 U, .int .i64 C, .string D]) (t := 29) ?hr ?_; (case hd => rfl); (case hg => rfl); (case hr => first | (go_simp; done) | (go_simp; rfl)); intro gb hg w2 hbox hb; have n0_ := Aside0.mk (below_step HB.out hb); have BK := Aside0.mk hbox; clear HB; have HB := n0_; clear n0_; clear hb hbox hg; obtain ⟨hz0, hz1, hz2, hz3, hz4, hz5, hz6, hz7, hz8, hz9, hz10⟩ := cells11 BK.out; have hzf := fun i_ => blk_frozen BK.out i_)
    | ((with_reducible refine gate_dst (N := 4) rfl ?_); refine box_event ?hg (N := 4) ?hd (cs := #[.int .i64 0, .int .i64 0, .int .i64 0, .int .i64 0, .int .i64 0, .int .i64 0, .int .i64 0, .int .i64 0, .int .u32 0, .int .i64 0, .string (⟨#[]⟩ : ByteArray)]) (t := 29) ?hr ?_; (case hd => rfl); (case hg => rfl); (case hr => first | (go_simp; done) | (go_simp; rfl)); intro gw hg w5 hbox hb; have BW := Aside0.mk hbox; have HBA := Aside0.mk hb; have HGA := Aside0.mk (Nat.le_of_eq hg.symm); have nbw : gb ≠ gw := (by rw [hg]; exact Nat.ne_of_lt (blk_lt (by repeat (first | exact BK.out | refine blk_drewN ?_ _)))); have nwb : gw ≠ gb := Ne.symm nbw; have HGW : Aside0 (w.heap.size ≤ gw) := (⟨by rw [hg]; exact below_size (show Below w.heap.size w _ from by repeat (first | exact HB.out | refine pw_below_drewN ?_ _))⟩); clear hb hbox hg)
    | ((with_reducible refine gate_store (t := 29) (p := 4) rfl ?_); refine store_whole 29 4 _ rfl rfl rfl gw [.int .i64 4, .int .i64 F, .int .i64 0, .int .i64 J, .int .i64 0, .int .i64 0, .int .i64 0, .int .i64 0, .int .u32 0, .int .i64 0, .string (⟨#[]⟩ : ByteArray)] BW.out rfl rfl rfl mrInfo rfl (by simp [Value.oneCell']) HBA.out HGA.out ?_; intro w6 hbw hB6; have n0_ := Aside0.mk (blk_below (by repeat (first | exact BK.out | refine blk_drewN ?_ _)) hB6); have n1_ := Aside0.mk (below_step (show Below w.heap.size w _ from by repeat (first | exact HB.out | refine pw_below_drewN ?_ _)) hB6); clear BK HB BW HBA HGA hz0 hz1 hz2 hz3 hz4 hz5 hz6 hz7 hz8 hz9 hz10 hzf; have BK := n0_; have HB := n1_; have BW := Aside0.mk hbw; clear n0_ n1_ hB6 hbw; obtain ⟨hz0, hz1, hz2, hz3, hz4, hz5, hz6, hz7, hz8, hz9, hz10⟩ := cells11 BK.out; obtain ⟨hw0, hw1, hw2, hw3, hw4, hw5, hw6, hw7, hw8, hw9, hw10⟩ := cells11 BW.out; have hwf := fun i_ => blk_frozen BW.out i_)
    | (go_at_call 34; (with_reducible refine (thresherref0_Num.calls F 3 _ _ HX.out).mono ?_); rintro e w' ⟨rfl, ⟨nd, rfl⟩⟩)
    | (go_at_call 34; (with_reducible refine (thresherref0_Num.calls 0 3 _ _ rfl).mono ?_); rintro e w' ⟨rfl, ⟨nd, rfl⟩⟩)
    | (go_at_call 35; (with_reducible refine (thresherref0_ID.calls J _ _ HJ.out).mono ?_); rintro e w' ⟨rfl, ⟨nd, rfl⟩⟩)
    | (go_at_call 35; (with_reducible refine (thresherref0_ID.calls S _ _ HS.out).mono ?_); rintro e w' ⟨rfl, ⟨nd, rfl⟩⟩))
  go_ret
  exact ⟨by first | rfl | simp, by repeat (first | (with_reducible first | exact HB.out | refine pw_below_drewN ?_ _ | refine below_drew1 ?_ | refine below_set ?_ HGW.out) | exact HB.out)⟩
set_option maxHeartbeats 16000000 in
set_option maxRecDepth 100000 in
theorem mrGood41 (F : Int) (J S E O L U C : Int) (D : ByteArray) (w : World) (h : thresherref0_Num.f F 3 = some true) (hF : F ≠ 0) (hJ : thresherref0_ID.f J = some true) (H : thresherref0_ID.f S = some true ∧ E < 1) :
    Calls Try.prog 22 #[.agg #[.int .i64 4, .int .i64 F, .int .i64 0, .int .i64 J, .int .i64 S, .int .i64 E, .int .i64 O, .int .i64 L, .int .u32 U, .int .i64 C, .string D]] w fun e w' => e = .returned (.bool false) ∧ Below w.heap.size w w' := by
  have hu29 := Try.underlying29
  have HB := Aside0.mk (Below.refl w.heap.size w)
  have HX := Aside0.mk h
  clear h
  have HJ := Aside0.mk hJ
  clear hJ
  have hF1 : (F == 0) = false := beq_eq_false_iff_ne.mpr hF
  have hF2 : (F != 0) = true := bne_iff_ne.mpr hF
  clear hF
  obtain ⟨h1, h2⟩ := H
  have HS := Aside0.mk h1
  have q1 : decide (E < 1) = true := decide_eq_true h2
  clear h1 h2
  go_enter Try.func22, Try.ntmps22
  go_wp2_with (first
    | ((with_reducible refine gate_dst (N := 1) rfl ?_); refine box_event ?hg (N := 1) ?hd (cs := #[.int .i64 4, .int .i64 F, .int .i64 0, .int .i64 J, .int .i64 S, .int .i64 E, .int .i64 O, .int .i64 L, .int .u32 U, .int .i64 C, .string D]) (t := 29) ?hr ?_; (case hd => rfl); (case hg => rfl); (case hr => first | (go_simp; done) | (go_simp; rfl)); intro gb hg w2 hbox hb; have n0_ := Aside0.mk (below_step HB.out hb); have BK := Aside0.mk hbox; clear HB; have HB := n0_; clear n0_; clear hb hbox hg; obtain ⟨hz0, hz1, hz2, hz3, hz4, hz5, hz6, hz7, hz8, hz9, hz10⟩ := cells11 BK.out; have hzf := fun i_ => blk_frozen BK.out i_)
    | ((with_reducible refine gate_dst (N := 4) rfl ?_); refine box_event ?hg (N := 4) ?hd (cs := #[.int .i64 0, .int .i64 0, .int .i64 0, .int .i64 0, .int .i64 0, .int .i64 0, .int .i64 0, .int .i64 0, .int .u32 0, .int .i64 0, .string (⟨#[]⟩ : ByteArray)]) (t := 29) ?hr ?_; (case hd => rfl); (case hg => rfl); (case hr => first | (go_simp; done) | (go_simp; rfl)); intro gw hg w5 hbox hb; have BW := Aside0.mk hbox; have HBA := Aside0.mk hb; have HGA := Aside0.mk (Nat.le_of_eq hg.symm); have nbw : gb ≠ gw := (by rw [hg]; exact Nat.ne_of_lt (blk_lt (by repeat (first | exact BK.out | refine blk_drewN ?_ _)))); have nwb : gw ≠ gb := Ne.symm nbw; have HGW : Aside0 (w.heap.size ≤ gw) := (⟨by rw [hg]; exact below_size (show Below w.heap.size w _ from by repeat (first | exact HB.out | refine pw_below_drewN ?_ _))⟩); clear hb hbox hg)
    | ((with_reducible refine gate_store (t := 29) (p := 4) rfl ?_); refine store_whole 29 4 _ rfl rfl rfl gw [.int .i64 4, .int .i64 F, .int .i64 0, .int .i64 J, .int .i64 0, .int .i64 0, .int .i64 0, .int .i64 0, .int .u32 0, .int .i64 0, .string (⟨#[]⟩ : ByteArray)] BW.out rfl rfl rfl mrInfo rfl (by simp [Value.oneCell']) HBA.out HGA.out ?_; intro w6 hbw hB6; have n0_ := Aside0.mk (blk_below (by repeat (first | exact BK.out | refine blk_drewN ?_ _)) hB6); have n1_ := Aside0.mk (below_step (show Below w.heap.size w _ from by repeat (first | exact HB.out | refine pw_below_drewN ?_ _)) hB6); clear BK HB BW HBA HGA hz0 hz1 hz2 hz3 hz4 hz5 hz6 hz7 hz8 hz9 hz10 hzf; have BK := n0_; have HB := n1_; have BW := Aside0.mk hbw; clear n0_ n1_ hB6 hbw; obtain ⟨hz0, hz1, hz2, hz3, hz4, hz5, hz6, hz7, hz8, hz9, hz10⟩ := cells11 BK.out; obtain ⟨hw0, hw1, hw2, hw3, hw4, hw5, hw6, hw7, hw8, hw9, hw10⟩ := cells11 BW.out; have hwf := fun i_ => blk_frozen BW.out i_)
    | (go_at_call 34; (with_reducible refine (thresherref0_Num.calls F 3 _ _ HX.out).mono ?_); rintro e w' ⟨rfl, ⟨nd, rfl⟩⟩)
    | (go_at_call 34; (with_reducible refine (thresherref0_Num.calls 0 3 _ _ rfl).mono ?_); rintro e w' ⟨rfl, ⟨nd, rfl⟩⟩)
    | (go_at_call 35; (with_reducible refine (thresherref0_ID.calls J _ _ HJ.out).mono ?_); rintro e w' ⟨rfl, ⟨nd, rfl⟩⟩)
    | (go_at_call 35; (with_reducible refine (thresherref0_ID.calls S _ _ HS.out).mono ?_); rintro e w' ⟨rfl, ⟨nd, rfl⟩⟩))
  go_ret
  exact ⟨by first | rfl | simp, by repeat (first | (with_reducible first | exact HB.out | refine pw_below_drewN ?_ _ | refine below_drew1 ?_ | refine below_set ?_ HGW.out) | exact HB.out)⟩
set_option maxHeartbeats 16000000 in
set_option maxRecDepth 100000 in
theorem mrGood42 (F : Int) (J S E O L U C : Int) (D : ByteArray) (w : World) (h : thresherref0_Num.f F 3 = some true) (hF : F ≠ 0) (hJ : thresherref0_ID.f J = some true) (H : thresherref0_ID.f S = some true ∧ 1048576 < E) :
    Calls Try.prog 22 #[.agg #[.int .i64 4, .int .i64 F, .int .i64 0, .int .i64 J, .int .i64 S, .int .i64 E, .int .i64 O, .int .i64 L, .int .u32 U, .int .i64 C, .string D]] w fun e w' => e = .returned (.bool false) ∧ Below w.heap.size w w' := by
  have hu29 := Try.underlying29
  have HB := Aside0.mk (Below.refl w.heap.size w)
  have HX := Aside0.mk h
  clear h
  have HJ := Aside0.mk hJ
  clear hJ
  have hF1 : (F == 0) = false := beq_eq_false_iff_ne.mpr hF
  have hF2 : (F != 0) = true := bne_iff_ne.mpr hF
  clear hF
  obtain ⟨h1, h2⟩ := H
  have HS := Aside0.mk h1
  have q1 : decide (E < 1) = false := decide_eq_false (by omega)
  have q2 : decide (1048576 < E) = true := decide_eq_true h2
  have q3 : decide (E > 1048576) = true := decide_eq_true h2
  clear h1 h2
  go_enter Try.func22, Try.ntmps22
  go_wp2_with (first
    | ((with_reducible refine gate_dst (N := 1) rfl ?_); refine box_event ?hg (N := 1) ?hd (cs := #[.int .i64 4, .int .i64 F, .int .i64 0, .int .i64 J, .int .i64 S, .int .i64 E, .int .i64 O, .int .i64 L, .int .u32 U, .int .i64 C, .string D]) (t := 29) ?hr ?_; (case hd => rfl); (case hg => rfl); (case hr => first | (go_simp; done) | (go_simp; rfl)); intro gb hg w2 hbox hb; have n0_ := Aside0.mk (below_step HB.out hb); have BK := Aside0.mk hbox; clear HB; have HB := n0_; clear n0_; clear hb hbox hg; obtain ⟨hz0, hz1, hz2, hz3, hz4, hz5, hz6, hz7, hz8, hz9, hz10⟩ := cells11 BK.out; have hzf := fun i_ => blk_frozen BK.out i_)
    | ((with_reducible refine gate_dst (N := 4) rfl ?_); refine box_event ?hg (N := 4) ?hd (cs := #[.int .i64 0, .int .i64 0, .int .i64 0, .int .i64 0, .int .i64 0, .int .i64 0, .int .i64 0, .int .i64 0, .int .u32 0, .int .i64 0, .string (⟨#[]⟩ : ByteArray)]) (t := 29) ?hr ?_; (case hd => rfl); (case hg => rfl); (case hr => first | (go_simp; done) | (go_simp; rfl)); intro gw hg w5 hbox hb; have BW := Aside0.mk hbox; have HBA := Aside0.mk hb; have HGA := Aside0.mk (Nat.le_of_eq hg.symm); have nbw : gb ≠ gw := (by rw [hg]; exact Nat.ne_of_lt (blk_lt (by repeat (first | exact BK.out | refine blk_drewN ?_ _)))); have nwb : gw ≠ gb := Ne.symm nbw; have HGW : Aside0 (w.heap.size ≤ gw) := (⟨by rw [hg]; exact below_size (show Below w.heap.size w _ from by repeat (first | exact HB.out | refine pw_below_drewN ?_ _))⟩); clear hb hbox hg)
    | ((with_reducible refine gate_store (t := 29) (p := 4) rfl ?_); refine store_whole 29 4 _ rfl rfl rfl gw [.int .i64 4, .int .i64 F, .int .i64 0, .int .i64 J, .int .i64 0, .int .i64 0, .int .i64 0, .int .i64 0, .int .u32 0, .int .i64 0, .string (⟨#[]⟩ : ByteArray)] BW.out rfl rfl rfl mrInfo rfl (by simp [Value.oneCell']) HBA.out HGA.out ?_; intro w6 hbw hB6; have n0_ := Aside0.mk (blk_below (by repeat (first | exact BK.out | refine blk_drewN ?_ _)) hB6); have n1_ := Aside0.mk (below_step (show Below w.heap.size w _ from by repeat (first | exact HB.out | refine pw_below_drewN ?_ _)) hB6); clear BK HB BW HBA HGA hz0 hz1 hz2 hz3 hz4 hz5 hz6 hz7 hz8 hz9 hz10 hzf; have BK := n0_; have HB := n1_; have BW := Aside0.mk hbw; clear n0_ n1_ hB6 hbw; obtain ⟨hz0, hz1, hz2, hz3, hz4, hz5, hz6, hz7, hz8, hz9, hz10⟩ := cells11 BK.out; obtain ⟨hw0, hw1, hw2, hw3, hw4, hw5, hw6, hw7, hw8, hw9, hw10⟩ := cells11 BW.out; have hwf := fun i_ => blk_frozen BW.out i_)
    | (go_at_call 34; (with_reducible refine (thresherref0_Num.calls F 3 _ _ HX.out).mono ?_); rintro e w' ⟨rfl, ⟨nd, rfl⟩⟩)
    | (go_at_call 34; (with_reducible refine (thresherref0_Num.calls 0 3 _ _ rfl).mono ?_); rintro e w' ⟨rfl, ⟨nd, rfl⟩⟩)
    | (go_at_call 35; (with_reducible refine (thresherref0_ID.calls J _ _ HJ.out).mono ?_); rintro e w' ⟨rfl, ⟨nd, rfl⟩⟩)
    | (go_at_call 35; (with_reducible refine (thresherref0_ID.calls S _ _ HS.out).mono ?_); rintro e w' ⟨rfl, ⟨nd, rfl⟩⟩))
  go_ret
  exact ⟨by first | rfl | simp, by repeat (first | (with_reducible first | exact HB.out | refine pw_below_drewN ?_ _ | refine below_drew1 ?_ | refine below_set ?_ HGW.out) | exact HB.out)⟩
set_option maxHeartbeats 16000000 in
set_option maxRecDepth 100000 in
theorem mrGood43 (F : Int) (J S E O L U C : Int) (D : ByteArray) (w : World) (h : thresherref0_Num.f F 3 = some true) (hF : F ≠ 0) (hJ : thresherref0_ID.f J = some true) (H : thresherref0_ID.f S = some true ∧ (1 ≤ E ∧ E ≤ 1048576) ∧ C < 1) :
    Calls Try.prog 22 #[.agg #[.int .i64 4, .int .i64 F, .int .i64 0, .int .i64 J, .int .i64 S, .int .i64 E, .int .i64 O, .int .i64 L, .int .u32 U, .int .i64 C, .string D]] w fun e w' => e = .returned (.bool false) ∧ Below w.heap.size w w' := by
  have hu29 := Try.underlying29
  have HB := Aside0.mk (Below.refl w.heap.size w)
  have HX := Aside0.mk h
  clear h
  have HJ := Aside0.mk hJ
  clear hJ
  have hF1 : (F == 0) = false := beq_eq_false_iff_ne.mpr hF
  have hF2 : (F != 0) = true := bne_iff_ne.mpr hF
  clear hF
  obtain ⟨h1, h2, h3⟩ := H
  have HS := Aside0.mk h1
  have q1 : decide (E < 1) = false := decide_eq_false (by omega)
  have q2 : decide (1048576 < E) = false := decide_eq_false (by omega)
  have q3 : decide (E > 1048576) = false := decide_eq_false (by omega)
  clear h1 h2
  have q4 : decide (C < 1) = true := decide_eq_true h3
  clear h3
  go_enter Try.func22, Try.ntmps22
  go_wp2_with (first
    | ((with_reducible refine gate_dst (N := 1) rfl ?_); refine box_event ?hg (N := 1) ?hd (cs := #[.int .i64 4, .int .i64 F, .int .i64 0, .int .i64 J, .int .i64 S, .int .i64 E, .int .i64 O, .int .i64 L, .int .u32 U, .int .i64 C, .string D]) (t := 29) ?hr ?_; (case hd => rfl); (case hg => rfl); (case hr => first | (go_simp; done) | (go_simp; rfl)); intro gb hg w2 hbox hb; have n0_ := Aside0.mk (below_step HB.out hb); have BK := Aside0.mk hbox; clear HB; have HB := n0_; clear n0_; clear hb hbox hg; obtain ⟨hz0, hz1, hz2, hz3, hz4, hz5, hz6, hz7, hz8, hz9, hz10⟩ := cells11 BK.out; have hzf := fun i_ => blk_frozen BK.out i_)
    | ((with_reducible refine gate_dst (N := 4) rfl ?_); refine box_event ?hg (N := 4) ?hd (cs := #[.int .i64 0, .int .i64 0, .int .i64 0, .int .i64 0, .int .i64 0, .int .i64 0, .int .i64 0, .int .i64 0, .int .u32 0, .int .i64 0, .string (⟨#[]⟩ : ByteArray)]) (t := 29) ?hr ?_; (case hd => rfl); (case hg => rfl); (case hr => first | (go_simp; done) | (go_simp; rfl)); intro gw hg w5 hbox hb; have BW := Aside0.mk hbox; have HBA := Aside0.mk hb; have HGA := Aside0.mk (Nat.le_of_eq hg.symm); have nbw : gb ≠ gw := (by rw [hg]; exact Nat.ne_of_lt (blk_lt (by repeat (first | exact BK.out | refine blk_drewN ?_ _)))); have nwb : gw ≠ gb := Ne.symm nbw; have HGW : Aside0 (w.heap.size ≤ gw) := (⟨by rw [hg]; exact below_size (show Below w.heap.size w _ from by repeat (first | exact HB.out | refine pw_below_drewN ?_ _))⟩); clear hb hbox hg)
    | ((with_reducible refine gate_store (t := 29) (p := 4) rfl ?_); refine store_whole 29 4 _ rfl rfl rfl gw [.int .i64 4, .int .i64 F, .int .i64 0, .int .i64 J, .int .i64 0, .int .i64 0, .int .i64 0, .int .i64 0, .int .u32 0, .int .i64 0, .string (⟨#[]⟩ : ByteArray)] BW.out rfl rfl rfl mrInfo rfl (by simp [Value.oneCell']) HBA.out HGA.out ?_; intro w6 hbw hB6; have n0_ := Aside0.mk (blk_below (by repeat (first | exact BK.out | refine blk_drewN ?_ _)) hB6); have n1_ := Aside0.mk (below_step (show Below w.heap.size w _ from by repeat (first | exact HB.out | refine pw_below_drewN ?_ _)) hB6); clear BK HB BW HBA HGA hz0 hz1 hz2 hz3 hz4 hz5 hz6 hz7 hz8 hz9 hz10 hzf; have BK := n0_; have HB := n1_; have BW := Aside0.mk hbw; clear n0_ n1_ hB6 hbw; obtain ⟨hz0, hz1, hz2, hz3, hz4, hz5, hz6, hz7, hz8, hz9, hz10⟩ := cells11 BK.out; obtain ⟨hw0, hw1, hw2, hw3, hw4, hw5, hw6, hw7, hw8, hw9, hw10⟩ := cells11 BW.out; have hwf := fun i_ => blk_frozen BW.out i_)
    | (go_at_call 34; (with_reducible refine (thresherref0_Num.calls F 3 _ _ HX.out).mono ?_); rintro e w' ⟨rfl, ⟨nd, rfl⟩⟩)
    | (go_at_call 34; (with_reducible refine (thresherref0_Num.calls 0 3 _ _ rfl).mono ?_); rintro e w' ⟨rfl, ⟨nd, rfl⟩⟩)
    | (go_at_call 35; (with_reducible refine (thresherref0_ID.calls J _ _ HJ.out).mono ?_); rintro e w' ⟨rfl, ⟨nd, rfl⟩⟩)
    | (go_at_call 35; (with_reducible refine (thresherref0_ID.calls S _ _ HS.out).mono ?_); rintro e w' ⟨rfl, ⟨nd, rfl⟩⟩))
  go_region_held3 (fun w' => w'.cell? ⟨gb, 4, none⟩ = some (.int .i64 S) ∧ w'.cell? ⟨gb, 5, none⟩ = some (.int .i64 E)) (first | go_keep | exact ⟨by simp [*], by simp [*]⟩) (fail)
  have m0 := Aside0.mk (blk_far (p := ⟨gw, 5, none⟩) (blk_far (p := ⟨gw, 4, none⟩) (blk_drewN BK.out (nd + 1)) nbw (.int .i64 S)) nbw (.int .i64 E))
  have m1 : Aside0 ((((w6.drewN (nd + 1)).setCell ⟨gw, 4, none⟩ (.int .i64 S)).setCell ⟨gw, 5, none⟩ (.int .i64 E)).heap[gw]? = some (.cells #[.int .i64 4, .int .i64 F, .int .i64 0, .int .i64 J, .int .i64 S, .int .i64 E, .int .i64 0, .int .i64 0, .int .u32 0, .int .i64 0, .string (⟨#[]⟩ : ByteArray)] 29 (0, 0))) := ⟨blk_put (blk_put (blk_drewN BW.out _) 4 _ rfl) 5 _ rfl⟩
  have m2 : Aside0 (Below w.heap.size w (((w6.drewN (nd + 1)).setCell ⟨gw, 4, none⟩ (.int .i64 S)).setCell ⟨gw, 5, none⟩ (.int .i64 E))) := ⟨below_set (below_set (pw_below_drewN HB.out _) HGW.out) HGW.out⟩
  clear BK HB BW hz0 hz1 hz2 hz3 hz4 hz5 hz6 hz7 hz8 hz9 hz10 hw0 hw1 hw2 hw3 hw4 hw5 hw6 hw7 hw8 hw9 hw10 hwf
  generalize (((w6.drewN (nd + 1)).setCell ⟨gw, 4, none⟩ (.int .i64 S)).setCell ⟨gw, 5, none⟩ (.int .i64 E)) = w7 at *
  have BK := m0
  have BW := m1
  have HB := m2
  clear m0 m1 m2
  obtain ⟨hz0, hz1, hz2, hz3, hz4, hz5, hz6, hz7, hz8, hz9, hz10⟩ := cells11 BK.out
  obtain ⟨hw0, hw1, hw2, hw3, hw4, hw5, hw6, hw7, hw8, hw9, hw10⟩ := cells11 BW.out
  have hwf := fun i_ => blk_frozen BW.out i_
  go_wp2_with (first
    | (go_at_call 34; (with_reducible refine (thresherref0_Num.calls F 3 _ _ HX.out).mono ?_); rintro e w' ⟨rfl, ⟨nd, rfl⟩⟩)
    | (go_at_call 34; (with_reducible refine (thresherref0_Num.calls 0 3 _ _ rfl).mono ?_); rintro e w' ⟨rfl, ⟨nd, rfl⟩⟩)
    | (go_at_call 35; (with_reducible refine (thresherref0_ID.calls J _ _ HJ.out).mono ?_); rintro e w' ⟨rfl, ⟨nd, rfl⟩⟩)
    | (go_at_call 35; (with_reducible refine (thresherref0_ID.calls S _ _ HS.out).mono ?_); rintro e w' ⟨rfl, ⟨nd, rfl⟩⟩))
  go_ret
  exact ⟨by first | rfl | simp, by repeat (first | (with_reducible first | exact HB.out | refine pw_below_drewN ?_ _ | refine below_drew1 ?_ | refine below_set ?_ HGW.out) | exact HB.out)⟩
set_option maxHeartbeats 16000000 in
set_option maxRecDepth 100000 in
theorem mrGood44 (F : Int) (J S E O L U C : Int) (D : ByteArray) (w : World) (h : thresherref0_Num.f F 3 = some true) (hF : F ≠ 0) (hJ : thresherref0_ID.f J = some true) (H : thresherref0_ID.f S = some true ∧ (1 ≤ E ∧ E ≤ 1048576) ∧ 64 < C) :
    Calls Try.prog 22 #[.agg #[.int .i64 4, .int .i64 F, .int .i64 0, .int .i64 J, .int .i64 S, .int .i64 E, .int .i64 O, .int .i64 L, .int .u32 U, .int .i64 C, .string D]] w fun e w' => e = .returned (.bool false) ∧ Below w.heap.size w w' := by
  have hu29 := Try.underlying29
  have HB := Aside0.mk (Below.refl w.heap.size w)
  have HX := Aside0.mk h
  clear h
  have HJ := Aside0.mk hJ
  clear hJ
  have hF1 : (F == 0) = false := beq_eq_false_iff_ne.mpr hF
  have hF2 : (F != 0) = true := bne_iff_ne.mpr hF
  clear hF
  obtain ⟨h1, h2, h3⟩ := H
  have HS := Aside0.mk h1
  have q1 : decide (E < 1) = false := decide_eq_false (by omega)
  have q2 : decide (1048576 < E) = false := decide_eq_false (by omega)
  have q3 : decide (E > 1048576) = false := decide_eq_false (by omega)
  clear h1 h2
  have q4 : decide (C < 1) = false := decide_eq_false (by omega)
  have q5 : decide (64 < C) = true := decide_eq_true h3
  have q6 : decide (C > 64) = true := decide_eq_true h3
  clear h3
  go_enter Try.func22, Try.ntmps22
  go_wp2_with (first
    | ((with_reducible refine gate_dst (N := 1) rfl ?_); refine box_event ?hg (N := 1) ?hd (cs := #[.int .i64 4, .int .i64 F, .int .i64 0, .int .i64 J, .int .i64 S, .int .i64 E, .int .i64 O, .int .i64 L, .int .u32 U, .int .i64 C, .string D]) (t := 29) ?hr ?_; (case hd => rfl); (case hg => rfl); (case hr => first | (go_simp; done) | (go_simp; rfl)); intro gb hg w2 hbox hb; have n0_ := Aside0.mk (below_step HB.out hb); have BK := Aside0.mk hbox; clear HB; have HB := n0_; clear n0_; clear hb hbox hg; obtain ⟨hz0, hz1, hz2, hz3, hz4, hz5, hz6, hz7, hz8, hz9, hz10⟩ := cells11 BK.out; have hzf := fun i_ => blk_frozen BK.out i_)
    | ((with_reducible refine gate_dst (N := 4) rfl ?_); refine box_event ?hg (N := 4) ?hd (cs := #[.int .i64 0, .int .i64 0, .int .i64 0, .int .i64 0, .int .i64 0, .int .i64 0, .int .i64 0, .int .i64 0, .int .u32 0, .int .i64 0, .string (⟨#[]⟩ : ByteArray)]) (t := 29) ?hr ?_; (case hd => rfl); (case hg => rfl); (case hr => first | (go_simp; done) | (go_simp; rfl)); intro gw hg w5 hbox hb; have BW := Aside0.mk hbox; have HBA := Aside0.mk hb; have HGA := Aside0.mk (Nat.le_of_eq hg.symm); have nbw : gb ≠ gw := (by rw [hg]; exact Nat.ne_of_lt (blk_lt (by repeat (first | exact BK.out | refine blk_drewN ?_ _)))); have nwb : gw ≠ gb := Ne.symm nbw; have HGW : Aside0 (w.heap.size ≤ gw) := (⟨by rw [hg]; exact below_size (show Below w.heap.size w _ from by repeat (first | exact HB.out | refine pw_below_drewN ?_ _))⟩); clear hb hbox hg)
    | ((with_reducible refine gate_store (t := 29) (p := 4) rfl ?_); refine store_whole 29 4 _ rfl rfl rfl gw [.int .i64 4, .int .i64 F, .int .i64 0, .int .i64 J, .int .i64 0, .int .i64 0, .int .i64 0, .int .i64 0, .int .u32 0, .int .i64 0, .string (⟨#[]⟩ : ByteArray)] BW.out rfl rfl rfl mrInfo rfl (by simp [Value.oneCell']) HBA.out HGA.out ?_; intro w6 hbw hB6; have n0_ := Aside0.mk (blk_below (by repeat (first | exact BK.out | refine blk_drewN ?_ _)) hB6); have n1_ := Aside0.mk (below_step (show Below w.heap.size w _ from by repeat (first | exact HB.out | refine pw_below_drewN ?_ _)) hB6); clear BK HB BW HBA HGA hz0 hz1 hz2 hz3 hz4 hz5 hz6 hz7 hz8 hz9 hz10 hzf; have BK := n0_; have HB := n1_; have BW := Aside0.mk hbw; clear n0_ n1_ hB6 hbw; obtain ⟨hz0, hz1, hz2, hz3, hz4, hz5, hz6, hz7, hz8, hz9, hz10⟩ := cells11 BK.out; obtain ⟨hw0, hw1, hw2, hw3, hw4, hw5, hw6, hw7, hw8, hw9, hw10⟩ := cells11 BW.out; have hwf := fun i_ => blk_frozen BW.out i_)
    | (go_at_call 34; (with_reducible refine (thresherref0_Num.calls F 3 _ _ HX.out).mono ?_); rintro e w' ⟨rfl, ⟨nd, rfl⟩⟩)
    | (go_at_call 34; (with_reducible refine (thresherref0_Num.calls 0 3 _ _ rfl).mono ?_); rintro e w' ⟨rfl, ⟨nd, rfl⟩⟩)
    | (go_at_call 35; (with_reducible refine (thresherref0_ID.calls J _ _ HJ.out).mono ?_); rintro e w' ⟨rfl, ⟨nd, rfl⟩⟩)
    | (go_at_call 35; (with_reducible refine (thresherref0_ID.calls S _ _ HS.out).mono ?_); rintro e w' ⟨rfl, ⟨nd, rfl⟩⟩))
  go_region_held3 (fun w' => w'.cell? ⟨gb, 4, none⟩ = some (.int .i64 S) ∧ w'.cell? ⟨gb, 5, none⟩ = some (.int .i64 E)) (first | go_keep | exact ⟨by simp [*], by simp [*]⟩) (fail)
  have m0 := Aside0.mk (blk_far (p := ⟨gw, 5, none⟩) (blk_far (p := ⟨gw, 4, none⟩) (blk_drewN BK.out (nd + 1)) nbw (.int .i64 S)) nbw (.int .i64 E))
  have m1 : Aside0 ((((w6.drewN (nd + 1)).setCell ⟨gw, 4, none⟩ (.int .i64 S)).setCell ⟨gw, 5, none⟩ (.int .i64 E)).heap[gw]? = some (.cells #[.int .i64 4, .int .i64 F, .int .i64 0, .int .i64 J, .int .i64 S, .int .i64 E, .int .i64 0, .int .i64 0, .int .u32 0, .int .i64 0, .string (⟨#[]⟩ : ByteArray)] 29 (0, 0))) := ⟨blk_put (blk_put (blk_drewN BW.out _) 4 _ rfl) 5 _ rfl⟩
  have m2 : Aside0 (Below w.heap.size w (((w6.drewN (nd + 1)).setCell ⟨gw, 4, none⟩ (.int .i64 S)).setCell ⟨gw, 5, none⟩ (.int .i64 E))) := ⟨below_set (below_set (pw_below_drewN HB.out _) HGW.out) HGW.out⟩
  clear BK HB BW hz0 hz1 hz2 hz3 hz4 hz5 hz6 hz7 hz8 hz9 hz10 hw0 hw1 hw2 hw3 hw4 hw5 hw6 hw7 hw8 hw9 hw10 hwf
  generalize (((w6.drewN (nd + 1)).setCell ⟨gw, 4, none⟩ (.int .i64 S)).setCell ⟨gw, 5, none⟩ (.int .i64 E)) = w7 at *
  have BK := m0
  have BW := m1
  have HB := m2
  clear m0 m1 m2
  obtain ⟨hz0, hz1, hz2, hz3, hz4, hz5, hz6, hz7, hz8, hz9, hz10⟩ := cells11 BK.out
  obtain ⟨hw0, hw1, hw2, hw3, hw4, hw5, hw6, hw7, hw8, hw9, hw10⟩ := cells11 BW.out
  have hwf := fun i_ => blk_frozen BW.out i_
  go_wp2_with (first
    | (go_at_call 34; (with_reducible refine (thresherref0_Num.calls F 3 _ _ HX.out).mono ?_); rintro e w' ⟨rfl, ⟨nd, rfl⟩⟩)
    | (go_at_call 34; (with_reducible refine (thresherref0_Num.calls 0 3 _ _ rfl).mono ?_); rintro e w' ⟨rfl, ⟨nd, rfl⟩⟩)
    | (go_at_call 35; (with_reducible refine (thresherref0_ID.calls J _ _ HJ.out).mono ?_); rintro e w' ⟨rfl, ⟨nd, rfl⟩⟩)
    | (go_at_call 35; (with_reducible refine (thresherref0_ID.calls S _ _ HS.out).mono ?_); rintro e w' ⟨rfl, ⟨nd, rfl⟩⟩))
  go_ret
  exact ⟨by first | rfl | simp, by repeat (first | (with_reducible first | exact HB.out | refine pw_below_drewN ?_ _ | refine below_drew1 ?_ | refine below_set ?_ HGW.out) | exact HB.out)⟩
set_option maxHeartbeats 16000000 in
set_option maxRecDepth 100000 in
theorem mrGood45 (F : Int) (J S E O L U C : Int) (D : ByteArray) (w : World) (h : thresherref0_Num.f F 3 = some true) (hF : F ≠ 0) (hJ : thresherref0_ID.f J = some true) (H : thresherref0_ID.f S = some true ∧ (1 ≤ E ∧ E ≤ 1048576) ∧ C = 1) :
    Calls Try.prog 22 #[.agg #[.int .i64 4, .int .i64 F, .int .i64 0, .int .i64 J, .int .i64 S, .int .i64 E, .int .i64 O, .int .i64 L, .int .u32 U, .int .i64 C, .string D]] w fun e w' => e = .returned (.bool false) ∧ Below w.heap.size w w' := by
  have hu29 := Try.underlying29
  have HB := Aside0.mk (Below.refl w.heap.size w)
  have HX := Aside0.mk h
  clear h
  have HJ := Aside0.mk hJ
  clear hJ
  have hF1 : (F == 0) = false := beq_eq_false_iff_ne.mpr hF
  have hF2 : (F != 0) = true := bne_iff_ne.mpr hF
  clear hF
  obtain ⟨h1, h2, h3⟩ := H
  have HS := Aside0.mk h1
  have q1 : decide (E < 1) = false := decide_eq_false (by omega)
  have q2 : decide (1048576 < E) = false := decide_eq_false (by omega)
  have q3 : decide (E > 1048576) = false := decide_eq_false (by omega)
  clear h1 h2
  have q4 : decide (C < 1) = false := decide_eq_false (by omega)
  have q5 : decide (64 < C) = false := decide_eq_false (by omega)
  have q6 : decide (C > 64) = false := decide_eq_false (by omega)
  have q7 : decide (C < 2) = true := decide_eq_true (by omega)
  clear h3
  go_enter Try.func22, Try.ntmps22
  go_wp2_with (first
    | ((with_reducible refine gate_dst (N := 1) rfl ?_); refine box_event ?hg (N := 1) ?hd (cs := #[.int .i64 4, .int .i64 F, .int .i64 0, .int .i64 J, .int .i64 S, .int .i64 E, .int .i64 O, .int .i64 L, .int .u32 U, .int .i64 C, .string D]) (t := 29) ?hr ?_; (case hd => rfl); (case hg => rfl); (case hr => first | (go_simp; done) | (go_simp; rfl)); intro gb hg w2 hbox hb; have n0_ := Aside0.mk (below_step HB.out hb); have BK := Aside0.mk hbox; clear HB; have HB := n0_; clear n0_; clear hb hbox hg; obtain ⟨hz0, hz1, hz2, hz3, hz4, hz5, hz6, hz7, hz8, hz9, hz10⟩ := cells11 BK.out; have hzf := fun i_ => blk_frozen BK.out i_)
    | ((with_reducible refine gate_dst (N := 4) rfl ?_); refine box_event ?hg (N := 4) ?hd (cs := #[.int .i64 0, .int .i64 0, .int .i64 0, .int .i64 0, .int .i64 0, .int .i64 0, .int .i64 0, .int .i64 0, .int .u32 0, .int .i64 0, .string (⟨#[]⟩ : ByteArray)]) (t := 29) ?hr ?_; (case hd => rfl); (case hg => rfl); (case hr => first | (go_simp; done) | (go_simp; rfl)); intro gw hg w5 hbox hb; have BW := Aside0.mk hbox; have HBA := Aside0.mk hb; have HGA := Aside0.mk (Nat.le_of_eq hg.symm); have nbw : gb ≠ gw := (by rw [hg]; exact Nat.ne_of_lt (blk_lt (by repeat (first | exact BK.out | refine blk_drewN ?_ _)))); have nwb : gw ≠ gb := Ne.symm nbw; have HGW : Aside0 (w.heap.size ≤ gw) := (⟨by rw [hg]; exact below_size (show Below w.heap.size w _ from by repeat (first | exact HB.out | refine pw_below_drewN ?_ _))⟩); clear hb hbox hg)
    | ((with_reducible refine gate_store (t := 29) (p := 4) rfl ?_); refine store_whole 29 4 _ rfl rfl rfl gw [.int .i64 4, .int .i64 F, .int .i64 0, .int .i64 J, .int .i64 0, .int .i64 0, .int .i64 0, .int .i64 0, .int .u32 0, .int .i64 0, .string (⟨#[]⟩ : ByteArray)] BW.out rfl rfl rfl mrInfo rfl (by simp [Value.oneCell']) HBA.out HGA.out ?_; intro w6 hbw hB6; have n0_ := Aside0.mk (blk_below (by repeat (first | exact BK.out | refine blk_drewN ?_ _)) hB6); have n1_ := Aside0.mk (below_step (show Below w.heap.size w _ from by repeat (first | exact HB.out | refine pw_below_drewN ?_ _)) hB6); clear BK HB BW HBA HGA hz0 hz1 hz2 hz3 hz4 hz5 hz6 hz7 hz8 hz9 hz10 hzf; have BK := n0_; have HB := n1_; have BW := Aside0.mk hbw; clear n0_ n1_ hB6 hbw; obtain ⟨hz0, hz1, hz2, hz3, hz4, hz5, hz6, hz7, hz8, hz9, hz10⟩ := cells11 BK.out; obtain ⟨hw0, hw1, hw2, hw3, hw4, hw5, hw6, hw7, hw8, hw9, hw10⟩ := cells11 BW.out; have hwf := fun i_ => blk_frozen BW.out i_)
    | (go_at_call 34; (with_reducible refine (thresherref0_Num.calls F 3 _ _ HX.out).mono ?_); rintro e w' ⟨rfl, ⟨nd, rfl⟩⟩)
    | (go_at_call 34; (with_reducible refine (thresherref0_Num.calls 0 3 _ _ rfl).mono ?_); rintro e w' ⟨rfl, ⟨nd, rfl⟩⟩)
    | (go_at_call 35; (with_reducible refine (thresherref0_ID.calls J _ _ HJ.out).mono ?_); rintro e w' ⟨rfl, ⟨nd, rfl⟩⟩)
    | (go_at_call 35; (with_reducible refine (thresherref0_ID.calls S _ _ HS.out).mono ?_); rintro e w' ⟨rfl, ⟨nd, rfl⟩⟩))
  go_region_held3 (fun w' => w'.cell? ⟨gb, 4, none⟩ = some (.int .i64 S) ∧ w'.cell? ⟨gb, 5, none⟩ = some (.int .i64 E)) (first | go_keep | exact ⟨by simp [*], by simp [*]⟩) (fail)
  have m0 := Aside0.mk (blk_far (p := ⟨gw, 5, none⟩) (blk_far (p := ⟨gw, 4, none⟩) (blk_drewN BK.out (nd + 1)) nbw (.int .i64 S)) nbw (.int .i64 E))
  have m1 : Aside0 ((((w6.drewN (nd + 1)).setCell ⟨gw, 4, none⟩ (.int .i64 S)).setCell ⟨gw, 5, none⟩ (.int .i64 E)).heap[gw]? = some (.cells #[.int .i64 4, .int .i64 F, .int .i64 0, .int .i64 J, .int .i64 S, .int .i64 E, .int .i64 0, .int .i64 0, .int .u32 0, .int .i64 0, .string (⟨#[]⟩ : ByteArray)] 29 (0, 0))) := ⟨blk_put (blk_put (blk_drewN BW.out _) 4 _ rfl) 5 _ rfl⟩
  have m2 : Aside0 (Below w.heap.size w (((w6.drewN (nd + 1)).setCell ⟨gw, 4, none⟩ (.int .i64 S)).setCell ⟨gw, 5, none⟩ (.int .i64 E))) := ⟨below_set (below_set (pw_below_drewN HB.out _) HGW.out) HGW.out⟩
  clear BK HB BW hz0 hz1 hz2 hz3 hz4 hz5 hz6 hz7 hz8 hz9 hz10 hw0 hw1 hw2 hw3 hw4 hw5 hw6 hw7 hw8 hw9 hw10 hwf
  generalize (((w6.drewN (nd + 1)).setCell ⟨gw, 4, none⟩ (.int .i64 S)).setCell ⟨gw, 5, none⟩ (.int .i64 E)) = w7 at *
  have BK := m0
  have BW := m1
  have HB := m2
  clear m0 m1 m2
  obtain ⟨hz0, hz1, hz2, hz3, hz4, hz5, hz6, hz7, hz8, hz9, hz10⟩ := cells11 BK.out
  obtain ⟨hw0, hw1, hw2, hw3, hw4, hw5, hw6, hw7, hw8, hw9, hw10⟩ := cells11 BW.out
  have hwf := fun i_ => blk_frozen BW.out i_
  go_wp2_with (first
    | (go_at_call 34; (with_reducible refine (thresherref0_Num.calls F 3 _ _ HX.out).mono ?_); rintro e w' ⟨rfl, ⟨nd, rfl⟩⟩)
    | (go_at_call 34; (with_reducible refine (thresherref0_Num.calls 0 3 _ _ rfl).mono ?_); rintro e w' ⟨rfl, ⟨nd, rfl⟩⟩)
    | (go_at_call 35; (with_reducible refine (thresherref0_ID.calls J _ _ HJ.out).mono ?_); rintro e w' ⟨rfl, ⟨nd, rfl⟩⟩)
    | (go_at_call 35; (with_reducible refine (thresherref0_ID.calls S _ _ HS.out).mono ?_); rintro e w' ⟨rfl, ⟨nd, rfl⟩⟩))
  go_ret
  exact ⟨by first | rfl | simp, by repeat (first | (with_reducible first | exact HB.out | refine pw_below_drewN ?_ _ | refine below_drew1 ?_ | refine below_set ?_ HGW.out) | exact HB.out)⟩
set_option maxHeartbeats 16000000 in
set_option maxRecDepth 100000 in
theorem mrGood46 (F : Int) (J S E O L U C : Int) (D : ByteArray) (w : World) (h : thresherref0_Num.f F 3 = some true) (hF : F ≠ 0) (hJ : thresherref0_ID.f J = some true) (H : thresherref0_ID.f S = some true ∧ (1 ≤ E ∧ E ≤ 1048576) ∧ (2 ≤ C ∧ C ≤ 64)) :
    Calls Try.prog 22 #[.agg #[.int .i64 4, .int .i64 F, .int .i64 0, .int .i64 J, .int .i64 S, .int .i64 E, .int .i64 O, .int .i64 L, .int .u32 U, .int .i64 C, .string D]] w fun e w' => e = .returned (.bool (O == 0 && (L == 0 && (U == 0 && D.toList.isEmpty)))) ∧ Below w.heap.size w w' := by
  have hu29 := Try.underlying29
  have HB := Aside0.mk (Below.refl w.heap.size w)
  have HX := Aside0.mk h
  clear h
  have HJ := Aside0.mk hJ
  clear hJ
  have hF1 : (F == 0) = false := beq_eq_false_iff_ne.mpr hF
  have hF2 : (F != 0) = true := bne_iff_ne.mpr hF
  clear hF
  obtain ⟨h1, h2, h3⟩ := H
  have HS := Aside0.mk h1
  have q1 : decide (E < 1) = false := decide_eq_false (by omega)
  have q2 : decide (1048576 < E) = false := decide_eq_false (by omega)
  have q3 : decide (E > 1048576) = false := decide_eq_false (by omega)
  clear h1 h2
  have q4 : decide (C < 1) = false := decide_eq_false (by omega)
  have q5 : decide (64 < C) = false := decide_eq_false (by omega)
  have q6 : decide (C > 64) = false := decide_eq_false (by omega)
  have q7 : decide (C < 2) = false := decide_eq_false (by omega)
  clear h3
  go_enter Try.func22, Try.ntmps22
  go_wp2_with (first
    | ((with_reducible refine gate_dst (N := 1) rfl ?_); refine box_event ?hg (N := 1) ?hd (cs := #[.int .i64 4, .int .i64 F, .int .i64 0, .int .i64 J, .int .i64 S, .int .i64 E, .int .i64 O, .int .i64 L, .int .u32 U, .int .i64 C, .string D]) (t := 29) ?hr ?_; (case hd => rfl); (case hg => rfl); (case hr => first | (go_simp; done) | (go_simp; rfl)); intro gb hg w2 hbox hb; have n0_ := Aside0.mk (below_step HB.out hb); have BK := Aside0.mk hbox; clear HB; have HB := n0_; clear n0_; clear hb hbox hg; obtain ⟨hz0, hz1, hz2, hz3, hz4, hz5, hz6, hz7, hz8, hz9, hz10⟩ := cells11 BK.out; have hzf := fun i_ => blk_frozen BK.out i_)
    | ((with_reducible refine gate_dst (N := 4) rfl ?_); refine box_event ?hg (N := 4) ?hd (cs := #[.int .i64 0, .int .i64 0, .int .i64 0, .int .i64 0, .int .i64 0, .int .i64 0, .int .i64 0, .int .i64 0, .int .u32 0, .int .i64 0, .string (⟨#[]⟩ : ByteArray)]) (t := 29) ?hr ?_; (case hd => rfl); (case hg => rfl); (case hr => first | (go_simp; done) | (go_simp; rfl)); intro gw hg w5 hbox hb; have BW := Aside0.mk hbox; have HBA := Aside0.mk hb; have HGA := Aside0.mk (Nat.le_of_eq hg.symm); have nbw : gb ≠ gw := (by rw [hg]; exact Nat.ne_of_lt (blk_lt (by repeat (first | exact BK.out | refine blk_drewN ?_ _)))); have nwb : gw ≠ gb := Ne.symm nbw; have HGW : Aside0 (w.heap.size ≤ gw) := (⟨by rw [hg]; exact below_size (show Below w.heap.size w _ from by repeat (first | exact HB.out | refine pw_below_drewN ?_ _))⟩); clear hb hbox hg)
    | ((with_reducible refine gate_store (t := 29) (p := 4) rfl ?_); refine store_whole 29 4 _ rfl rfl rfl gw [.int .i64 4, .int .i64 F, .int .i64 0, .int .i64 J, .int .i64 0, .int .i64 0, .int .i64 0, .int .i64 0, .int .u32 0, .int .i64 0, .string (⟨#[]⟩ : ByteArray)] BW.out rfl rfl rfl mrInfo rfl (by simp [Value.oneCell']) HBA.out HGA.out ?_; intro w6 hbw hB6; have n0_ := Aside0.mk (blk_below (by repeat (first | exact BK.out | refine blk_drewN ?_ _)) hB6); have n1_ := Aside0.mk (below_step (show Below w.heap.size w _ from by repeat (first | exact HB.out | refine pw_below_drewN ?_ _)) hB6); clear BK HB BW HBA HGA hz0 hz1 hz2 hz3 hz4 hz5 hz6 hz7 hz8 hz9 hz10 hzf; have BK := n0_; have HB := n1_; have BW := Aside0.mk hbw; clear n0_ n1_ hB6 hbw; obtain ⟨hz0, hz1, hz2, hz3, hz4, hz5, hz6, hz7, hz8, hz9, hz10⟩ := cells11 BK.out; obtain ⟨hw0, hw1, hw2, hw3, hw4, hw5, hw6, hw7, hw8, hw9, hw10⟩ := cells11 BW.out; have hwf := fun i_ => blk_frozen BW.out i_)
    | (go_at_call 34; (with_reducible refine (thresherref0_Num.calls F 3 _ _ HX.out).mono ?_); rintro e w' ⟨rfl, ⟨nd, rfl⟩⟩)
    | (go_at_call 34; (with_reducible refine (thresherref0_Num.calls 0 3 _ _ rfl).mono ?_); rintro e w' ⟨rfl, ⟨nd, rfl⟩⟩)
    | (go_at_call 35; (with_reducible refine (thresherref0_ID.calls J _ _ HJ.out).mono ?_); rintro e w' ⟨rfl, ⟨nd, rfl⟩⟩)
    | (go_at_call 35; (with_reducible refine (thresherref0_ID.calls S _ _ HS.out).mono ?_); rintro e w' ⟨rfl, ⟨nd, rfl⟩⟩))
  go_region_held3 (fun w' => w'.cell? ⟨gb, 4, none⟩ = some (.int .i64 S) ∧ w'.cell? ⟨gb, 5, none⟩ = some (.int .i64 E)) (first | go_keep | exact ⟨by simp [*], by simp [*]⟩) (fail)
  have m0 := Aside0.mk (blk_far (p := ⟨gw, 5, none⟩) (blk_far (p := ⟨gw, 4, none⟩) (blk_drewN BK.out (nd + 1)) nbw (.int .i64 S)) nbw (.int .i64 E))
  have m1 : Aside0 ((((w6.drewN (nd + 1)).setCell ⟨gw, 4, none⟩ (.int .i64 S)).setCell ⟨gw, 5, none⟩ (.int .i64 E)).heap[gw]? = some (.cells #[.int .i64 4, .int .i64 F, .int .i64 0, .int .i64 J, .int .i64 S, .int .i64 E, .int .i64 0, .int .i64 0, .int .u32 0, .int .i64 0, .string (⟨#[]⟩ : ByteArray)] 29 (0, 0))) := ⟨blk_put (blk_put (blk_drewN BW.out _) 4 _ rfl) 5 _ rfl⟩
  have m2 : Aside0 (Below w.heap.size w (((w6.drewN (nd + 1)).setCell ⟨gw, 4, none⟩ (.int .i64 S)).setCell ⟨gw, 5, none⟩ (.int .i64 E))) := ⟨below_set (below_set (pw_below_drewN HB.out _) HGW.out) HGW.out⟩
  clear BK HB BW hz0 hz1 hz2 hz3 hz4 hz5 hz6 hz7 hz8 hz9 hz10 hw0 hw1 hw2 hw3 hw4 hw5 hw6 hw7 hw8 hw9 hw10 hwf
  generalize (((w6.drewN (nd + 1)).setCell ⟨gw, 4, none⟩ (.int .i64 S)).setCell ⟨gw, 5, none⟩ (.int .i64 E)) = w7 at *
  have BK := m0
  have BW := m1
  have HB := m2
  clear m0 m1 m2
  obtain ⟨hz0, hz1, hz2, hz3, hz4, hz5, hz6, hz7, hz8, hz9, hz10⟩ := cells11 BK.out
  obtain ⟨hw0, hw1, hw2, hw3, hw4, hw5, hw6, hw7, hw8, hw9, hw10⟩ := cells11 BW.out
  have hwf := fun i_ => blk_frozen BW.out i_
  go_wp2_with (first
    | (go_at_call 34; (with_reducible refine (thresherref0_Num.calls F 3 _ _ HX.out).mono ?_); rintro e w' ⟨rfl, ⟨nd, rfl⟩⟩)
    | (go_at_call 34; (with_reducible refine (thresherref0_Num.calls 0 3 _ _ rfl).mono ?_); rintro e w' ⟨rfl, ⟨nd, rfl⟩⟩)
    | (go_at_call 35; (with_reducible refine (thresherref0_ID.calls J _ _ HJ.out).mono ?_); rintro e w' ⟨rfl, ⟨nd, rfl⟩⟩)
    | (go_at_call 35; (with_reducible refine (thresherref0_ID.calls S _ _ HS.out).mono ?_); rintro e w' ⟨rfl, ⟨nd, rfl⟩⟩))
  go_ret
  exact ⟨by first | rfl | simp, by repeat (first | (with_reducible first | exact HB.out | refine pw_below_drewN ?_ _ | refine below_drew1 ?_ | refine below_set ?_ HGW.out) | exact HB.out)⟩
set_option maxHeartbeats 16000000 in
set_option maxRecDepth 100000 in
theorem mrGood50 (T : Int) (J S E O L U C : Int) (D : ByteArray) (w : World) (h : thresherref0_Num.f T 3 = some true) (hT : T ≠ 0) (hJ : thresherref0_ID.f J = some true) (H : True) :
    Calls Try.prog 22 #[.agg #[.int .i64 5, .int .i64 0, .int .i64 T, .int .i64 J, .int .i64 S, .int .i64 E, .int .i64 O, .int .i64 L, .int .u32 U, .int .i64 C, .string D]] w fun e w' => e = .returned (.bool (S == 0 && (E == 0 && (O == 0 && (L == 0 && (U == 0 && (C == 0 && D.toList.isEmpty))))))) ∧ Below w.heap.size w w' := by
  have hu29 := Try.underlying29
  have HB := Aside0.mk (Below.refl w.heap.size w)
  have HX := Aside0.mk h
  clear h
  have HJ := Aside0.mk hJ
  clear hJ
  have hT1 : (T == 0) = false := beq_eq_false_iff_ne.mpr hT
  have hT2 : (T != 0) = true := bne_iff_ne.mpr hT
  clear hT
  have h1 := H
  clear H
  clear h1
  go_enter Try.func22, Try.ntmps22
  go_wp2_with (first
    | ((with_reducible refine gate_dst (N := 1) rfl ?_); refine box_event ?hg (N := 1) ?hd (cs := #[.int .i64 5, .int .i64 0, .int .i64 T, .int .i64 J, .int .i64 S, .int .i64 E, .int .i64 O, .int .i64 L, .int .u32 U, .int .i64 C, .string D]) (t := 29) ?hr ?_; (case hd => rfl); (case hg => rfl); (case hr => first | (go_simp; done) | (go_simp; rfl)); intro gb hg w2 hbox hb; have n0_ := Aside0.mk (below_step HB.out hb); have BK := Aside0.mk hbox; clear HB; have HB := n0_; clear n0_; clear hb hbox hg; obtain ⟨hz0, hz1, hz2, hz3, hz4, hz5, hz6, hz7, hz8, hz9, hz10⟩ := cells11 BK.out; have hzf := fun i_ => blk_frozen BK.out i_)
    | ((with_reducible refine gate_dst (N := 4) rfl ?_); refine box_event ?hg (N := 4) ?hd (cs := #[.int .i64 0, .int .i64 0, .int .i64 0, .int .i64 0, .int .i64 0, .int .i64 0, .int .i64 0, .int .i64 0, .int .u32 0, .int .i64 0, .string (⟨#[]⟩ : ByteArray)]) (t := 29) ?hr ?_; (case hd => rfl); (case hg => rfl); (case hr => first | (go_simp; done) | (go_simp; rfl)); intro gw hg w5 hbox hb; have BW := Aside0.mk hbox; have HBA := Aside0.mk hb; have HGA := Aside0.mk (Nat.le_of_eq hg.symm); have nbw : gb ≠ gw := (by rw [hg]; exact Nat.ne_of_lt (blk_lt (by repeat (first | exact BK.out | refine blk_drewN ?_ _)))); have nwb : gw ≠ gb := Ne.symm nbw; have HGW : Aside0 (w.heap.size ≤ gw) := (⟨by rw [hg]; exact below_size (show Below w.heap.size w _ from by repeat (first | exact HB.out | refine pw_below_drewN ?_ _))⟩); clear hb hbox hg)
    | ((with_reducible refine gate_store (t := 29) (p := 4) rfl ?_); refine store_whole 29 4 _ rfl rfl rfl gw [.int .i64 5, .int .i64 0, .int .i64 T, .int .i64 J, .int .i64 0, .int .i64 0, .int .i64 0, .int .i64 0, .int .u32 0, .int .i64 0, .string (⟨#[]⟩ : ByteArray)] BW.out rfl rfl rfl mrInfo rfl (by simp [Value.oneCell']) HBA.out HGA.out ?_; intro w6 hbw hB6; have n0_ := Aside0.mk (blk_below (by repeat (first | exact BK.out | refine blk_drewN ?_ _)) hB6); have n1_ := Aside0.mk (below_step (show Below w.heap.size w _ from by repeat (first | exact HB.out | refine pw_below_drewN ?_ _)) hB6); clear BK HB BW HBA HGA hz0 hz1 hz2 hz3 hz4 hz5 hz6 hz7 hz8 hz9 hz10 hzf; have BK := n0_; have HB := n1_; have BW := Aside0.mk hbw; clear n0_ n1_ hB6 hbw; obtain ⟨hz0, hz1, hz2, hz3, hz4, hz5, hz6, hz7, hz8, hz9, hz10⟩ := cells11 BK.out; obtain ⟨hw0, hw1, hw2, hw3, hw4, hw5, hw6, hw7, hw8, hw9, hw10⟩ := cells11 BW.out; have hwf := fun i_ => blk_frozen BW.out i_)
    | (go_at_call 34; (with_reducible refine (thresherref0_Num.calls T 3 _ _ HX.out).mono ?_); rintro e w' ⟨rfl, ⟨nd, rfl⟩⟩)
    | (go_at_call 34; (with_reducible refine (thresherref0_Num.calls 0 3 _ _ rfl).mono ?_); rintro e w' ⟨rfl, ⟨nd, rfl⟩⟩)
    | (go_at_call 35; (with_reducible refine (thresherref0_ID.calls J _ _ HJ.out).mono ?_); rintro e w' ⟨rfl, ⟨nd, rfl⟩⟩))
  go_ret
  exact ⟨by first | rfl | simp, by repeat (first | (with_reducible first | exact HB.out | refine pw_below_drewN ?_ _ | refine below_drew1 ?_ | refine below_set ?_ HGW.out) | exact HB.out)⟩
set_option maxHeartbeats 16000000 in
set_option maxRecDepth 100000 in
theorem mrGood60 (F : Int) (J S E O L U C : Int) (D : ByteArray) (w : World) (h : thresherref0_Num.f F 3 = some true) (hF : F ≠ 0) (hJ : thresherref0_ID.f J = some true) (H : True) :
    Calls Try.prog 22 #[.agg #[.int .i64 6, .int .i64 F, .int .i64 0, .int .i64 J, .int .i64 S, .int .i64 E, .int .i64 O, .int .i64 L, .int .u32 U, .int .i64 C, .string D]] w fun e w' => e = .returned (.bool (S == 0 && (E == 0 && (O == 0 && (L == 0 && (U == 0 && (C == 0 && D.toList.isEmpty))))))) ∧ Below w.heap.size w w' := by
  have hu29 := Try.underlying29
  have HB := Aside0.mk (Below.refl w.heap.size w)
  have HX := Aside0.mk h
  clear h
  have HJ := Aside0.mk hJ
  clear hJ
  have hF1 : (F == 0) = false := beq_eq_false_iff_ne.mpr hF
  have hF2 : (F != 0) = true := bne_iff_ne.mpr hF
  clear hF
  have h1 := H
  clear H
  clear h1
  go_enter Try.func22, Try.ntmps22
  go_wp2_with (first
    | ((with_reducible refine gate_dst (N := 1) rfl ?_); refine box_event ?hg (N := 1) ?hd (cs := #[.int .i64 6, .int .i64 F, .int .i64 0, .int .i64 J, .int .i64 S, .int .i64 E, .int .i64 O, .int .i64 L, .int .u32 U, .int .i64 C, .string D]) (t := 29) ?hr ?_; (case hd => rfl); (case hg => rfl); (case hr => first | (go_simp; done) | (go_simp; rfl)); intro gb hg w2 hbox hb; have n0_ := Aside0.mk (below_step HB.out hb); have BK := Aside0.mk hbox; clear HB; have HB := n0_; clear n0_; clear hb hbox hg; obtain ⟨hz0, hz1, hz2, hz3, hz4, hz5, hz6, hz7, hz8, hz9, hz10⟩ := cells11 BK.out; have hzf := fun i_ => blk_frozen BK.out i_)
    | ((with_reducible refine gate_dst (N := 4) rfl ?_); refine box_event ?hg (N := 4) ?hd (cs := #[.int .i64 0, .int .i64 0, .int .i64 0, .int .i64 0, .int .i64 0, .int .i64 0, .int .i64 0, .int .i64 0, .int .u32 0, .int .i64 0, .string (⟨#[]⟩ : ByteArray)]) (t := 29) ?hr ?_; (case hd => rfl); (case hg => rfl); (case hr => first | (go_simp; done) | (go_simp; rfl)); intro gw hg w5 hbox hb; have BW := Aside0.mk hbox; have HBA := Aside0.mk hb; have HGA := Aside0.mk (Nat.le_of_eq hg.symm); have nbw : gb ≠ gw := (by rw [hg]; exact Nat.ne_of_lt (blk_lt (by repeat (first | exact BK.out | refine blk_drewN ?_ _)))); have nwb : gw ≠ gb := Ne.symm nbw; have HGW : Aside0 (w.heap.size ≤ gw) := (⟨by rw [hg]; exact below_size (show Below w.heap.size w _ from by repeat (first | exact HB.out | refine pw_below_drewN ?_ _))⟩); clear hb hbox hg)
    | ((with_reducible refine gate_store (t := 29) (p := 4) rfl ?_); refine store_whole 29 4 _ rfl rfl rfl gw [.int .i64 6, .int .i64 F, .int .i64 0, .int .i64 J, .int .i64 0, .int .i64 0, .int .i64 0, .int .i64 0, .int .u32 0, .int .i64 0, .string (⟨#[]⟩ : ByteArray)] BW.out rfl rfl rfl mrInfo rfl (by simp [Value.oneCell']) HBA.out HGA.out ?_; intro w6 hbw hB6; have n0_ := Aside0.mk (blk_below (by repeat (first | exact BK.out | refine blk_drewN ?_ _)) hB6); have n1_ := Aside0.mk (below_step (show Below w.heap.size w _ from by repeat (first | exact HB.out | refine pw_below_drewN ?_ _)) hB6); clear BK HB BW HBA HGA hz0 hz1 hz2 hz3 hz4 hz5 hz6 hz7 hz8 hz9 hz10 hzf; have BK := n0_; have HB := n1_; have BW := Aside0.mk hbw; clear n0_ n1_ hB6 hbw; obtain ⟨hz0, hz1, hz2, hz3, hz4, hz5, hz6, hz7, hz8, hz9, hz10⟩ := cells11 BK.out; obtain ⟨hw0, hw1, hw2, hw3, hw4, hw5, hw6, hw7, hw8, hw9, hw10⟩ := cells11 BW.out; have hwf := fun i_ => blk_frozen BW.out i_)
    | (go_at_call 34; (with_reducible refine (thresherref0_Num.calls F 3 _ _ HX.out).mono ?_); rintro e w' ⟨rfl, ⟨nd, rfl⟩⟩)
    | (go_at_call 34; (with_reducible refine (thresherref0_Num.calls 0 3 _ _ rfl).mono ?_); rintro e w' ⟨rfl, ⟨nd, rfl⟩⟩)
    | (go_at_call 35; (with_reducible refine (thresherref0_ID.calls J _ _ HJ.out).mono ?_); rintro e w' ⟨rfl, ⟨nd, rfl⟩⟩))
  go_ret
  exact ⟨by first | rfl | simp, by repeat (first | (with_reducible first | exact HB.out | refine pw_below_drewN ?_ _ | refine below_drew1 ?_ | refine below_set ?_ HGW.out) | exact HB.out)⟩
set_option maxHeartbeats 16000000 in
set_option maxRecDepth 100000 in
theorem mrGood70 (T : Int) (J S E O L U C : Int) (D : ByteArray) (w : World) (h : thresherref0_Num.f T 3 = some true) (hT : T ≠ 0) (hJ : thresherref0_ID.f J = some true) (H : C < 1) :
    Calls Try.prog 22 #[.agg #[.int .i64 7, .int .i64 0, .int .i64 T, .int .i64 J, .int .i64 S, .int .i64 E, .int .i64 O, .int .i64 L, .int .u32 U, .int .i64 C, .string D]] w fun e w' => e = .returned (.bool false) ∧ Below w.heap.size w w' := by
  have hu29 := Try.underlying29
  have HB := Aside0.mk (Below.refl w.heap.size w)
  have HX := Aside0.mk h
  clear h
  have HJ := Aside0.mk hJ
  clear hJ
  have hT1 : (T == 0) = false := beq_eq_false_iff_ne.mpr hT
  have hT2 : (T != 0) = true := bne_iff_ne.mpr hT
  clear hT
  have h1 := H
  clear H
  have q4 : decide (C < 1) = true := decide_eq_true h1
  clear h1
  go_enter Try.func22, Try.ntmps22
  go_wp2_with (first
    | ((with_reducible refine gate_dst (N := 1) rfl ?_); refine box_event ?hg (N := 1) ?hd (cs := #[.int .i64 7, .int .i64 0, .int .i64 T, .int .i64 J, .int .i64 S, .int .i64 E, .int .i64 O, .int .i64 L, .int .u32 U, .int .i64 C, .string D]) (t := 29) ?hr ?_; (case hd => rfl); (case hg => rfl); (case hr => first | (go_simp; done) | (go_simp; rfl)); intro gb hg w2 hbox hb; have n0_ := Aside0.mk (below_step HB.out hb); have BK := Aside0.mk hbox; clear HB; have HB := n0_; clear n0_; clear hb hbox hg; obtain ⟨hz0, hz1, hz2, hz3, hz4, hz5, hz6, hz7, hz8, hz9, hz10⟩ := cells11 BK.out; have hzf := fun i_ => blk_frozen BK.out i_)
    | ((with_reducible refine gate_dst (N := 4) rfl ?_); refine box_event ?hg (N := 4) ?hd (cs := #[.int .i64 0, .int .i64 0, .int .i64 0, .int .i64 0, .int .i64 0, .int .i64 0, .int .i64 0, .int .i64 0, .int .u32 0, .int .i64 0, .string (⟨#[]⟩ : ByteArray)]) (t := 29) ?hr ?_; (case hd => rfl); (case hg => rfl); (case hr => first | (go_simp; done) | (go_simp; rfl)); intro gw hg w5 hbox hb; have BW := Aside0.mk hbox; have HBA := Aside0.mk hb; have HGA := Aside0.mk (Nat.le_of_eq hg.symm); have nbw : gb ≠ gw := (by rw [hg]; exact Nat.ne_of_lt (blk_lt (by repeat (first | exact BK.out | refine blk_drewN ?_ _)))); have nwb : gw ≠ gb := Ne.symm nbw; have HGW : Aside0 (w.heap.size ≤ gw) := (⟨by rw [hg]; exact below_size (show Below w.heap.size w _ from by repeat (first | exact HB.out | refine pw_below_drewN ?_ _))⟩); clear hb hbox hg)
    | ((with_reducible refine gate_store (t := 29) (p := 4) rfl ?_); refine store_whole 29 4 _ rfl rfl rfl gw [.int .i64 7, .int .i64 0, .int .i64 T, .int .i64 J, .int .i64 0, .int .i64 0, .int .i64 0, .int .i64 0, .int .u32 0, .int .i64 0, .string (⟨#[]⟩ : ByteArray)] BW.out rfl rfl rfl mrInfo rfl (by simp [Value.oneCell']) HBA.out HGA.out ?_; intro w6 hbw hB6; have n0_ := Aside0.mk (blk_below (by repeat (first | exact BK.out | refine blk_drewN ?_ _)) hB6); have n1_ := Aside0.mk (below_step (show Below w.heap.size w _ from by repeat (first | exact HB.out | refine pw_below_drewN ?_ _)) hB6); clear BK HB BW HBA HGA hz0 hz1 hz2 hz3 hz4 hz5 hz6 hz7 hz8 hz9 hz10 hzf; have BK := n0_; have HB := n1_; have BW := Aside0.mk hbw; clear n0_ n1_ hB6 hbw; obtain ⟨hz0, hz1, hz2, hz3, hz4, hz5, hz6, hz7, hz8, hz9, hz10⟩ := cells11 BK.out; obtain ⟨hw0, hw1, hw2, hw3, hw4, hw5, hw6, hw7, hw8, hw9, hw10⟩ := cells11 BW.out; have hwf := fun i_ => blk_frozen BW.out i_)
    | (go_at_call 34; (with_reducible refine (thresherref0_Num.calls T 3 _ _ HX.out).mono ?_); rintro e w' ⟨rfl, ⟨nd, rfl⟩⟩)
    | (go_at_call 34; (with_reducible refine (thresherref0_Num.calls 0 3 _ _ rfl).mono ?_); rintro e w' ⟨rfl, ⟨nd, rfl⟩⟩)
    | (go_at_call 35; (with_reducible refine (thresherref0_ID.calls J _ _ HJ.out).mono ?_); rintro e w' ⟨rfl, ⟨nd, rfl⟩⟩))
  go_ret
  exact ⟨by first | rfl | simp, by repeat (first | (with_reducible first | exact HB.out | refine pw_below_drewN ?_ _ | refine below_drew1 ?_ | refine below_set ?_ HGW.out) | exact HB.out)⟩
set_option maxHeartbeats 16000000 in
set_option maxRecDepth 100000 in
theorem mrGood71 (T : Int) (J S E O L U C : Int) (D : ByteArray) (w : World) (h : thresherref0_Num.f T 3 = some true) (hT : T ≠ 0) (hJ : thresherref0_ID.f J = some true) (H : 64 < C) :
    Calls Try.prog 22 #[.agg #[.int .i64 7, .int .i64 0, .int .i64 T, .int .i64 J, .int .i64 S, .int .i64 E, .int .i64 O, .int .i64 L, .int .u32 U, .int .i64 C, .string D]] w fun e w' => e = .returned (.bool false) ∧ Below w.heap.size w w' := by
  have hu29 := Try.underlying29
  have HB := Aside0.mk (Below.refl w.heap.size w)
  have HX := Aside0.mk h
  clear h
  have HJ := Aside0.mk hJ
  clear hJ
  have hT1 : (T == 0) = false := beq_eq_false_iff_ne.mpr hT
  have hT2 : (T != 0) = true := bne_iff_ne.mpr hT
  clear hT
  have h1 := H
  clear H
  have q4 : decide (C < 1) = false := decide_eq_false (by omega)
  have q5 : decide (64 < C) = true := decide_eq_true h1
  have q6 : decide (C > 64) = true := decide_eq_true h1
  clear h1
  go_enter Try.func22, Try.ntmps22
  go_wp2_with (first
    | ((with_reducible refine gate_dst (N := 1) rfl ?_); refine box_event ?hg (N := 1) ?hd (cs := #[.int .i64 7, .int .i64 0, .int .i64 T, .int .i64 J, .int .i64 S, .int .i64 E, .int .i64 O, .int .i64 L, .int .u32 U, .int .i64 C, .string D]) (t := 29) ?hr ?_; (case hd => rfl); (case hg => rfl); (case hr => first | (go_simp; done) | (go_simp; rfl)); intro gb hg w2 hbox hb; have n0_ := Aside0.mk (below_step HB.out hb); have BK := Aside0.mk hbox; clear HB; have HB := n0_; clear n0_; clear hb hbox hg; obtain ⟨hz0, hz1, hz2, hz3, hz4, hz5, hz6, hz7, hz8, hz9, hz10⟩ := cells11 BK.out; have hzf := fun i_ => blk_frozen BK.out i_)
    | ((with_reducible refine gate_dst (N := 4) rfl ?_); refine box_event ?hg (N := 4) ?hd (cs := #[.int .i64 0, .int .i64 0, .int .i64 0, .int .i64 0, .int .i64 0, .int .i64 0, .int .i64 0, .int .i64 0, .int .u32 0, .int .i64 0, .string (⟨#[]⟩ : ByteArray)]) (t := 29) ?hr ?_; (case hd => rfl); (case hg => rfl); (case hr => first | (go_simp; done) | (go_simp; rfl)); intro gw hg w5 hbox hb; have BW := Aside0.mk hbox; have HBA := Aside0.mk hb; have HGA := Aside0.mk (Nat.le_of_eq hg.symm); have nbw : gb ≠ gw := (by rw [hg]; exact Nat.ne_of_lt (blk_lt (by repeat (first | exact BK.out | refine blk_drewN ?_ _)))); have nwb : gw ≠ gb := Ne.symm nbw; have HGW : Aside0 (w.heap.size ≤ gw) := (⟨by rw [hg]; exact below_size (show Below w.heap.size w _ from by repeat (first | exact HB.out | refine pw_below_drewN ?_ _))⟩); clear hb hbox hg)
    | ((with_reducible refine gate_store (t := 29) (p := 4) rfl ?_); refine store_whole 29 4 _ rfl rfl rfl gw [.int .i64 7, .int .i64 0, .int .i64 T, .int .i64 J, .int .i64 0, .int .i64 0, .int .i64 0, .int .i64 0, .int .u32 0, .int .i64 0, .string (⟨#[]⟩ : ByteArray)] BW.out rfl rfl rfl mrInfo rfl (by simp [Value.oneCell']) HBA.out HGA.out ?_; intro w6 hbw hB6; have n0_ := Aside0.mk (blk_below (by repeat (first | exact BK.out | refine blk_drewN ?_ _)) hB6); have n1_ := Aside0.mk (below_step (show Below w.heap.size w _ from by repeat (first | exact HB.out | refine pw_below_drewN ?_ _)) hB6); clear BK HB BW HBA HGA hz0 hz1 hz2 hz3 hz4 hz5 hz6 hz7 hz8 hz9 hz10 hzf; have BK := n0_; have HB := n1_; have BW := Aside0.mk hbw; clear n0_ n1_ hB6 hbw; obtain ⟨hz0, hz1, hz2, hz3, hz4, hz5, hz6, hz7, hz8, hz9, hz10⟩ := cells11 BK.out; obtain ⟨hw0, hw1, hw2, hw3, hw4, hw5, hw6, hw7, hw8, hw9, hw10⟩ := cells11 BW.out; have hwf := fun i_ => blk_frozen BW.out i_)
    | (go_at_call 34; (with_reducible refine (thresherref0_Num.calls T 3 _ _ HX.out).mono ?_); rintro e w' ⟨rfl, ⟨nd, rfl⟩⟩)
    | (go_at_call 34; (with_reducible refine (thresherref0_Num.calls 0 3 _ _ rfl).mono ?_); rintro e w' ⟨rfl, ⟨nd, rfl⟩⟩)
    | (go_at_call 35; (with_reducible refine (thresherref0_ID.calls J _ _ HJ.out).mono ?_); rintro e w' ⟨rfl, ⟨nd, rfl⟩⟩))
  go_ret
  exact ⟨by first | rfl | simp, by repeat (first | (with_reducible first | exact HB.out | refine pw_below_drewN ?_ _ | refine below_drew1 ?_ | refine below_set ?_ HGW.out) | exact HB.out)⟩
set_option maxHeartbeats 16000000 in
set_option maxRecDepth 100000 in
theorem mrGood72 (T : Int) (J S E O L U C : Int) (D : ByteArray) (w : World) (h : thresherref0_Num.f T 3 = some true) (hT : T ≠ 0) (hJ : thresherref0_ID.f J = some true) (H : (1 ≤ C ∧ C ≤ 64)) :
    Calls Try.prog 22 #[.agg #[.int .i64 7, .int .i64 0, .int .i64 T, .int .i64 J, .int .i64 S, .int .i64 E, .int .i64 O, .int .i64 L, .int .u32 U, .int .i64 C, .string D]] w fun e w' => e = .returned (.bool (S == 0 && (E == 0 && (O == 0 && (L == 0 && (U == 0 && D.toList.isEmpty)))))) ∧ Below w.heap.size w w' := by
  have hu29 := Try.underlying29
  have HB := Aside0.mk (Below.refl w.heap.size w)
  have HX := Aside0.mk h
  clear h
  have HJ := Aside0.mk hJ
  clear hJ
  have hT1 : (T == 0) = false := beq_eq_false_iff_ne.mpr hT
  have hT2 : (T != 0) = true := bne_iff_ne.mpr hT
  clear hT
  have h1 := H
  clear H
  have q4 : decide (C < 1) = false := decide_eq_false (by omega)
  have q5 : decide (64 < C) = false := decide_eq_false (by omega)
  have q6 : decide (C > 64) = false := decide_eq_false (by omega)
  clear h1
  go_enter Try.func22, Try.ntmps22
  go_wp2_with (first
    | ((with_reducible refine gate_dst (N := 1) rfl ?_); refine box_event ?hg (N := 1) ?hd (cs := #[.int .i64 7, .int .i64 0, .int .i64 T, .int .i64 J, .int .i64 S, .int .i64 E, .int .i64 O, .int .i64 L, .int .u32 U, .int .i64 C, .string D]) (t := 29) ?hr ?_; (case hd => rfl); (case hg => rfl); (case hr => first | (go_simp; done) | (go_simp; rfl)); intro gb hg w2 hbox hb; have n0_ := Aside0.mk (below_step HB.out hb); have BK := Aside0.mk hbox; clear HB; have HB := n0_; clear n0_; clear hb hbox hg; obtain ⟨hz0, hz1, hz2, hz3, hz4, hz5, hz6, hz7, hz8, hz9, hz10⟩ := cells11 BK.out; have hzf := fun i_ => blk_frozen BK.out i_)
    | ((with_reducible refine gate_dst (N := 4) rfl ?_); refine box_event ?hg (N := 4) ?hd (cs := #[.int .i64 0, .int .i64 0, .int .i64 0, .int .i64 0, .int .i64 0, .int .i64 0, .int .i64 0, .int .i64 0, .int .u32 0, .int .i64 0, .string (⟨#[]⟩ : ByteArray)]) (t := 29) ?hr ?_; (case hd => rfl); (case hg => rfl); (case hr => first | (go_simp; done) | (go_simp; rfl)); intro gw hg w5 hbox hb; have BW := Aside0.mk hbox; have HBA := Aside0.mk hb; have HGA := Aside0.mk (Nat.le_of_eq hg.symm); have nbw : gb ≠ gw := (by rw [hg]; exact Nat.ne_of_lt (blk_lt (by repeat (first | exact BK.out | refine blk_drewN ?_ _)))); have nwb : gw ≠ gb := Ne.symm nbw; have HGW : Aside0 (w.heap.size ≤ gw) := (⟨by rw [hg]; exact below_size (show Below w.heap.size w _ from by repeat (first | exact HB.out | refine pw_below_drewN ?_ _))⟩); clear hb hbox hg)
    | ((with_reducible refine gate_store (t := 29) (p := 4) rfl ?_); refine store_whole 29 4 _ rfl rfl rfl gw [.int .i64 7, .int .i64 0, .int .i64 T, .int .i64 J, .int .i64 0, .int .i64 0, .int .i64 0, .int .i64 0, .int .u32 0, .int .i64 0, .string (⟨#[]⟩ : ByteArray)] BW.out rfl rfl rfl mrInfo rfl (by simp [Value.oneCell']) HBA.out HGA.out ?_; intro w6 hbw hB6; have n0_ := Aside0.mk (blk_below (by repeat (first | exact BK.out | refine blk_drewN ?_ _)) hB6); have n1_ := Aside0.mk (below_step (show Below w.heap.size w _ from by repeat (first | exact HB.out | refine pw_below_drewN ?_ _)) hB6); clear BK HB BW HBA HGA hz0 hz1 hz2 hz3 hz4 hz5 hz6 hz7 hz8 hz9 hz10 hzf; have BK := n0_; have HB := n1_; have BW := Aside0.mk hbw; clear n0_ n1_ hB6 hbw; obtain ⟨hz0, hz1, hz2, hz3, hz4, hz5, hz6, hz7, hz8, hz9, hz10⟩ := cells11 BK.out; obtain ⟨hw0, hw1, hw2, hw3, hw4, hw5, hw6, hw7, hw8, hw9, hw10⟩ := cells11 BW.out; have hwf := fun i_ => blk_frozen BW.out i_)
    | (go_at_call 34; (with_reducible refine (thresherref0_Num.calls T 3 _ _ HX.out).mono ?_); rintro e w' ⟨rfl, ⟨nd, rfl⟩⟩)
    | (go_at_call 34; (with_reducible refine (thresherref0_Num.calls 0 3 _ _ rfl).mono ?_); rintro e w' ⟨rfl, ⟨nd, rfl⟩⟩)
    | (go_at_call 35; (with_reducible refine (thresherref0_ID.calls J _ _ HJ.out).mono ?_); rintro e w' ⟨rfl, ⟨nd, rfl⟩⟩))
  go_ret
  exact ⟨by first | rfl | simp, by repeat (first | (with_reducible first | exact HB.out | refine pw_below_drewN ?_ _ | refine below_drew1 ?_ | refine below_set ?_ HGW.out) | exact HB.out)⟩
set_option maxHeartbeats 16000000 in
set_option maxRecDepth 100000 in
theorem mrGood80 (F : Int) (J S E O L U C : Int) (D : ByteArray) (w : World) (h : thresherref0_Num.f F 3 = some true) (hF : F ≠ 0) (hJ : thresherref0_ID.f J = some true) (H : True) :
    Calls Try.prog 22 #[.agg #[.int .i64 8, .int .i64 F, .int .i64 0, .int .i64 J, .int .i64 S, .int .i64 E, .int .i64 O, .int .i64 L, .int .u32 U, .int .i64 C, .string D]] w fun e w' => e = .returned (.bool (S == 0 && (E == 0 && (O == 0 && (L == 0 && (U == 0 && (C == 0 && D.toList.isEmpty))))))) ∧ Below w.heap.size w w' := by
  have hu29 := Try.underlying29
  have HB := Aside0.mk (Below.refl w.heap.size w)
  have HX := Aside0.mk h
  clear h
  have HJ := Aside0.mk hJ
  clear hJ
  have hF1 : (F == 0) = false := beq_eq_false_iff_ne.mpr hF
  have hF2 : (F != 0) = true := bne_iff_ne.mpr hF
  clear hF
  have h1 := H
  clear H
  clear h1
  go_enter Try.func22, Try.ntmps22
  go_wp2_with (first
    | ((with_reducible refine gate_dst (N := 1) rfl ?_); refine box_event ?hg (N := 1) ?hd (cs := #[.int .i64 8, .int .i64 F, .int .i64 0, .int .i64 J, .int .i64 S, .int .i64 E, .int .i64 O, .int .i64 L, .int .u32 U, .int .i64 C, .string D]) (t := 29) ?hr ?_; (case hd => rfl); (case hg => rfl); (case hr => first | (go_simp; done) | (go_simp; rfl)); intro gb hg w2 hbox hb; have n0_ := Aside0.mk (below_step HB.out hb); have BK := Aside0.mk hbox; clear HB; have HB := n0_; clear n0_; clear hb hbox hg; obtain ⟨hz0, hz1, hz2, hz3, hz4, hz5, hz6, hz7, hz8, hz9, hz10⟩ := cells11 BK.out; have hzf := fun i_ => blk_frozen BK.out i_)
    | ((with_reducible refine gate_dst (N := 4) rfl ?_); refine box_event ?hg (N := 4) ?hd (cs := #[.int .i64 0, .int .i64 0, .int .i64 0, .int .i64 0, .int .i64 0, .int .i64 0, .int .i64 0, .int .i64 0, .int .u32 0, .int .i64 0, .string (⟨#[]⟩ : ByteArray)]) (t := 29) ?hr ?_; (case hd => rfl); (case hg => rfl); (case hr => first | (go_simp; done) | (go_simp; rfl)); intro gw hg w5 hbox hb; have BW := Aside0.mk hbox; have HBA := Aside0.mk hb; have HGA := Aside0.mk (Nat.le_of_eq hg.symm); have nbw : gb ≠ gw := (by rw [hg]; exact Nat.ne_of_lt (blk_lt (by repeat (first | exact BK.out | refine blk_drewN ?_ _)))); have nwb : gw ≠ gb := Ne.symm nbw; have HGW : Aside0 (w.heap.size ≤ gw) := (⟨by rw [hg]; exact below_size (show Below w.heap.size w _ from by repeat (first | exact HB.out | refine pw_below_drewN ?_ _))⟩); clear hb hbox hg)
    | ((with_reducible refine gate_store (t := 29) (p := 4) rfl ?_); refine store_whole 29 4 _ rfl rfl rfl gw [.int .i64 8, .int .i64 F, .int .i64 0, .int .i64 J, .int .i64 0, .int .i64 0, .int .i64 0, .int .i64 0, .int .u32 0, .int .i64 0, .string (⟨#[]⟩ : ByteArray)] BW.out rfl rfl rfl mrInfo rfl (by simp [Value.oneCell']) HBA.out HGA.out ?_; intro w6 hbw hB6; have n0_ := Aside0.mk (blk_below (by repeat (first | exact BK.out | refine blk_drewN ?_ _)) hB6); have n1_ := Aside0.mk (below_step (show Below w.heap.size w _ from by repeat (first | exact HB.out | refine pw_below_drewN ?_ _)) hB6); clear BK HB BW HBA HGA hz0 hz1 hz2 hz3 hz4 hz5 hz6 hz7 hz8 hz9 hz10 hzf; have BK := n0_; have HB := n1_; have BW := Aside0.mk hbw; clear n0_ n1_ hB6 hbw; obtain ⟨hz0, hz1, hz2, hz3, hz4, hz5, hz6, hz7, hz8, hz9, hz10⟩ := cells11 BK.out; obtain ⟨hw0, hw1, hw2, hw3, hw4, hw5, hw6, hw7, hw8, hw9, hw10⟩ := cells11 BW.out; have hwf := fun i_ => blk_frozen BW.out i_)
    | (go_at_call 34; (with_reducible refine (thresherref0_Num.calls F 3 _ _ HX.out).mono ?_); rintro e w' ⟨rfl, ⟨nd, rfl⟩⟩)
    | (go_at_call 34; (with_reducible refine (thresherref0_Num.calls 0 3 _ _ rfl).mono ?_); rintro e w' ⟨rfl, ⟨nd, rfl⟩⟩)
    | (go_at_call 35; (with_reducible refine (thresherref0_ID.calls J _ _ HJ.out).mono ?_); rintro e w' ⟨rfl, ⟨nd, rfl⟩⟩))
  go_ret
  exact ⟨by first | rfl | simp, by repeat (first | (with_reducible first | exact HB.out | refine pw_below_drewN ?_ _ | refine below_drew1 ?_ | refine below_set ?_ HGW.out) | exact HB.out)⟩
/-- May a message be? (b: is there mrNo data, z: how much) -/
def mrOk' (K F T J S E O L U C : Int) (b : Bool) (z : Nat) : Prop :=
  (1 ≤ K ∧ K ≤ 8) ∧ ((F = 0 ∧ 1 ≤ T ∧ T ≤ 3 ∧ (K = 1 ∨ K = 3 ∨ K = 5 ∨ K = 7)) ∨ (T = 0 ∧ 1 ≤ F ∧ F ≤ 3 ∧ (K = 2 ∨ K = 4 ∨ K = 6 ∨ K = 8))) ∧ (1 ≤ J ∧ J ≤ 1048576) ∧
  ((K ≤ 4 ∧ 1 ≤ S ∧ S ≤ 1048576 ∧ 1 ≤ E ∧ E ≤ 1048576) ∨ (4 < K ∧ S = 0 ∧ E = 0)) ∧
  ((K = 1 ∧ O = 0 ∧ L = 0 ∧ U = 0 ∧ C = 0 ∧ z ≤ 1024) ∨ (K = 2 ∧ C = 0 ∧ 0 ≤ L ∧ L ≤ 32768 ∧ 0 ≤ O ∧ O ≤ L ∧ z ≤ 48) ∨ (K = 3 ∧ 0 ≤ O ∧ O ≤ 32768 ∧ L = 0 ∧ U = 0 ∧ C = 0 ∧ b = true) ∨
   (K = 4 ∧ O = 0 ∧ L = 0 ∧ U = 0 ∧ 2 ≤ C ∧ C ≤ 64 ∧ b = true) ∨ (K = 7 ∧ O = 0 ∧ L = 0 ∧ U = 0 ∧ 1 ≤ C ∧ C ≤ 64 ∧ b = true) ∨ ((K = 5 ∨ K = 6 ∨ K = 8) ∧ O = 0 ∧ L = 0 ∧ U = 0 ∧ C = 0 ∧ b = true))
set_option synthInstance.maxSize 4000 in
set_option synthInstance.maxHeartbeats 400000 in
instance (K F T J S E O L U C : Int) (b : Bool) (z : Nat) : Decidable (mrOk' K F T J S E O L U C b z) := by unfold mrOk'; infer_instance
def mrOk (K F T J S E O L U C : Int) (D : ByteArray) : Prop := mrOk' K F T J S E O L U C (D.toList == ([] : List UInt8)) D.size
instance (K F T J S E O L U C : Int) (D : ByteArray) : Decidable (mrOk K F T J S E O L U C D) := by unfold mrOk; infer_instance
theorem mrNumEq (a c : Int) : thresherref0_Num.f a c = some (decide (0 ≤ a ∧ a ≤ c)) := by
  unfold thresherref0_Num.f
  by_cases h : a ≥ 0
  · rw [if_pos h]
    congr 1
    simp
    omega
  · rw [if_neg h]
    congr 1
    simp
    omega
theorem mrIdEq (a : Int) : thresherref0_ID.f a = some (decide (1 ≤ a ∧ a ≤ 1048576)) := by
  unfold thresherref0_ID.f
  by_cases h : a ≥ 1
  · rw [if_pos h]
    congr 1
    simp
    omega
  · rw [if_neg h]
    congr 1
    simp
    omega
theorem mrNumT {a c : Int} (h : 0 ≤ a ∧ a ≤ c) : thresherref0_Num.f a c = some true := by rw [mrNumEq, decide_eq_true h]
theorem mrNumF {a c : Int} (h : ¬ (0 ≤ a ∧ a ≤ c)) : thresherref0_Num.f a c = some false := by rw [mrNumEq, decide_eq_false h]
theorem mrIdT {a : Int} (h : 1 ≤ a ∧ a ≤ 1048576) : thresherref0_ID.f a = some true := by rw [mrIdEq, decide_eq_true h]
theorem mrIdF {a : Int} (h : ¬ (1 ≤ a ∧ a ≤ 1048576)) : thresherref0_ID.f a = some false := by rw [mrIdEq, decide_eq_false h]
theorem mrEmp (D : ByteArray) : D.toList.isEmpty = (D.toList == ([] : List UInt8)) := by cases D.toList <;> rfl
/-- What the walks came to is what may be. -/
theorem mrNo {K F T J S E O L U C : Int} {D : ByteArray} {Q : Bool → Prop} (h : ¬ mrOk K F T J S E O L U C D) (c : Q false) : Q (decide (mrOk K F T J S E O L U C D)) := by rw [decide_eq_false h]; exact c
theorem mrYes {K F T J S E O L U C : Int} {D : ByteArray} {Q : Bool → Prop} {b : Bool} (h : mrOk K F T J S E O L U C D ↔ b = true) (c : Q b) : Q (decide (mrOk K F T J S E O L U C D)) := by
  have e : decide (mrOk K F T J S E O L U C D) = b := by cases b <;> simp [h]
  rw [e]
  exact c
theorem mrKind1 (T J S E O L U C : Int) (D : ByteArray) (w : World) (hx : 1 ≤ T ∧ T ≤ 3) (hJ : 1 ≤ J ∧ J ≤ 1048576) : (fun r_ => Calls Try.prog 22 #[.agg #[.int .i64 1, .int .i64 0, .int .i64 T, .int .i64 J, .int .i64 S, .int .i64 E, .int .i64 O, .int .i64 L, .int .u32 U, .int .i64 C, .string D]] w fun e w' => e = .returned (.bool r_) ∧ Below w.heap.size w w') (decide (mrOk 1 0 T J S E O L U C D)) := by
  have hx1 : thresherref0_Num.f T 3 = some true := mrNumT (by omega)
  have hx2 : T ≠ 0 := by omega
  have hJ1 := mrIdT hJ
  by_cases h1 : 1 ≤ S ∧ S ≤ 1048576
  case neg =>
    refine mrNo (Q := fun r_ => Calls Try.prog 22 #[.agg #[.int .i64 1, .int .i64 0, .int .i64 T, .int .i64 J, .int .i64 S, .int .i64 E, .int .i64 O, .int .i64 L, .int .u32 U, .int .i64 C, .string D]] w fun e w' => e = .returned (.bool r_) ∧ Below w.heap.size w w') ?_ (mrGood10 T J S E O L U C D w hx1 hx2 hJ1 (mrIdF h1))
    intro h_
    unfold mrOk mrOk' at h_
    omega
  have i1 := mrIdT h1
  by_cases h2 : E < 1
  case pos =>
    refine mrNo (Q := fun r_ => Calls Try.prog 22 #[.agg #[.int .i64 1, .int .i64 0, .int .i64 T, .int .i64 J, .int .i64 S, .int .i64 E, .int .i64 O, .int .i64 L, .int .u32 U, .int .i64 C, .string D]] w fun e w' => e = .returned (.bool r_) ∧ Below w.heap.size w w') ?_ (mrGood11 T J S E O L U C D w hx1 hx2 hJ1 (⟨i1, h2⟩))
    intro h_
    unfold mrOk mrOk' at h_
    omega
  by_cases h3 : 1048576 < E
  case pos =>
    refine mrNo (Q := fun r_ => Calls Try.prog 22 #[.agg #[.int .i64 1, .int .i64 0, .int .i64 T, .int .i64 J, .int .i64 S, .int .i64 E, .int .i64 O, .int .i64 L, .int .u32 U, .int .i64 C, .string D]] w fun e w' => e = .returned (.bool r_) ∧ Below w.heap.size w w') ?_ (mrGood12 T J S E O L U C D w hx1 hx2 hJ1 (⟨i1, h3⟩))
    intro h_
    unfold mrOk mrOk' at h_
    omega
  have h4 : 1 ≤ E ∧ E ≤ 1048576 := by omega
  by_cases h5 : 1024 < D.size
  case pos =>
    refine mrNo (Q := fun r_ => Calls Try.prog 22 #[.agg #[.int .i64 1, .int .i64 0, .int .i64 T, .int .i64 J, .int .i64 S, .int .i64 E, .int .i64 O, .int .i64 L, .int .u32 U, .int .i64 C, .string D]] w fun e w' => e = .returned (.bool r_) ∧ Below w.heap.size w w') ?_ (mrGood13 T J S E O L U C D w hx1 hx2 hJ1 (⟨i1, h4, h5⟩))
    intro h_
    unfold mrOk mrOk' at h_
    omega
  refine mrYes (Q := fun r_ => Calls Try.prog 22 #[.agg #[.int .i64 1, .int .i64 0, .int .i64 T, .int .i64 J, .int .i64 S, .int .i64 E, .int .i64 O, .int .i64 L, .int .u32 U, .int .i64 C, .string D]] w fun e w' => e = .returned (.bool r_) ∧ Below w.heap.size w w') ?_ (mrGood14 T J S E O L U C D w hx1 hx2 hJ1 (⟨i1, h4, Nat.le_of_not_lt h5⟩))
  unfold mrOk mrOk'
  generalize (D.toList == ([] : List UInt8)) = b_
  cases b_ <;> simp only [Bool.false_eq_true, and_false, and_true, or_false, iff_false, Bool.and_eq_true, beq_iff_eq, Bool.and_false, Bool.and_true, true_and, or_true, true_or, false_and, false_or, Int.reduceLE, Int.reduceLT, Int.reduceEq]
  all_goals (first | (refine ⟨fun h_ => ?_, fun h_ => ?_⟩ <;> omega) | omega)
theorem mrKind2 (F J S E O L U C : Int) (D : ByteArray) (w : World) (hx : 1 ≤ F ∧ F ≤ 3) (hJ : 1 ≤ J ∧ J ≤ 1048576) : (fun r_ => Calls Try.prog 22 #[.agg #[.int .i64 2, .int .i64 F, .int .i64 0, .int .i64 J, .int .i64 S, .int .i64 E, .int .i64 O, .int .i64 L, .int .u32 U, .int .i64 C, .string D]] w fun e w' => e = .returned (.bool r_) ∧ Below w.heap.size w w') (decide (mrOk 2 F 0 J S E O L U C D)) := by
  have hx1 : thresherref0_Num.f F 3 = some true := mrNumT (by omega)
  have hx2 : F ≠ 0 := by omega
  have hJ1 := mrIdT hJ
  by_cases h1 : 1 ≤ S ∧ S ≤ 1048576
  case neg =>
    refine mrNo (Q := fun r_ => Calls Try.prog 22 #[.agg #[.int .i64 2, .int .i64 F, .int .i64 0, .int .i64 J, .int .i64 S, .int .i64 E, .int .i64 O, .int .i64 L, .int .u32 U, .int .i64 C, .string D]] w fun e w' => e = .returned (.bool r_) ∧ Below w.heap.size w w') ?_ (mrGood20 F J S E O L U C D w hx1 hx2 hJ1 (mrIdF h1))
    intro h_
    unfold mrOk mrOk' at h_
    omega
  have i1 := mrIdT h1
  by_cases h2 : E < 1
  case pos =>
    refine mrNo (Q := fun r_ => Calls Try.prog 22 #[.agg #[.int .i64 2, .int .i64 F, .int .i64 0, .int .i64 J, .int .i64 S, .int .i64 E, .int .i64 O, .int .i64 L, .int .u32 U, .int .i64 C, .string D]] w fun e w' => e = .returned (.bool r_) ∧ Below w.heap.size w w') ?_ (mrGood21 F J S E O L U C D w hx1 hx2 hJ1 (⟨i1, h2⟩))
    intro h_
    unfold mrOk mrOk' at h_
    omega
  by_cases h3 : 1048576 < E
  case pos =>
    refine mrNo (Q := fun r_ => Calls Try.prog 22 #[.agg #[.int .i64 2, .int .i64 F, .int .i64 0, .int .i64 J, .int .i64 S, .int .i64 E, .int .i64 O, .int .i64 L, .int .u32 U, .int .i64 C, .string D]] w fun e w' => e = .returned (.bool r_) ∧ Below w.heap.size w w') ?_ (mrGood22 F J S E O L U C D w hx1 hx2 hJ1 (⟨i1, h3⟩))
    intro h_
    unfold mrOk mrOk' at h_
    omega
  have h4 : 1 ≤ E ∧ E ≤ 1048576 := by omega
  by_cases h5 : 0 ≤ L ∧ L ≤ 32768
  case neg =>
    refine mrNo (Q := fun r_ => Calls Try.prog 22 #[.agg #[.int .i64 2, .int .i64 F, .int .i64 0, .int .i64 J, .int .i64 S, .int .i64 E, .int .i64 O, .int .i64 L, .int .u32 U, .int .i64 C, .string D]] w fun e w' => e = .returned (.bool r_) ∧ Below w.heap.size w w') ?_ (mrGood23 F J S E O L U C D w hx1 hx2 hJ1 (⟨i1, h4, mrNumF h5⟩))
    intro h_
    unfold mrOk mrOk' at h_
    omega
  by_cases h6 : 0 ≤ O ∧ O ≤ L
  case neg =>
    refine mrNo (Q := fun r_ => Calls Try.prog 22 #[.agg #[.int .i64 2, .int .i64 F, .int .i64 0, .int .i64 J, .int .i64 S, .int .i64 E, .int .i64 O, .int .i64 L, .int .u32 U, .int .i64 C, .string D]] w fun e w' => e = .returned (.bool r_) ∧ Below w.heap.size w w') ?_ (mrGood24 F J S E O L U C D w hx1 hx2 hJ1 (⟨i1, h4, mrNumT h5, mrNumF h6⟩))
    intro h_
    unfold mrOk mrOk' at h_
    omega
  by_cases h7 : 48 < D.size
  case pos =>
    refine mrNo (Q := fun r_ => Calls Try.prog 22 #[.agg #[.int .i64 2, .int .i64 F, .int .i64 0, .int .i64 J, .int .i64 S, .int .i64 E, .int .i64 O, .int .i64 L, .int .u32 U, .int .i64 C, .string D]] w fun e w' => e = .returned (.bool r_) ∧ Below w.heap.size w w') ?_ (mrGood25 F J S E O L U C D w hx1 hx2 hJ1 (⟨i1, h4, mrNumT h5, mrNumT h6, h7⟩))
    intro h_
    unfold mrOk mrOk' at h_
    omega
  refine mrYes (Q := fun r_ => Calls Try.prog 22 #[.agg #[.int .i64 2, .int .i64 F, .int .i64 0, .int .i64 J, .int .i64 S, .int .i64 E, .int .i64 O, .int .i64 L, .int .u32 U, .int .i64 C, .string D]] w fun e w' => e = .returned (.bool r_) ∧ Below w.heap.size w w') ?_ (mrGood26 F J S E O L U C D w hx1 hx2 hJ1 (⟨i1, h4, mrNumT h5, mrNumT h6, Nat.le_of_not_lt h7⟩))
  unfold mrOk mrOk'
  generalize (D.toList == ([] : List UInt8)) = b_
  cases b_ <;> simp only [Bool.false_eq_true, and_false, and_true, or_false, iff_false, Bool.and_eq_true, beq_iff_eq, Bool.and_false, Bool.and_true, true_and, or_true, true_or, false_and, false_or, Int.reduceLE, Int.reduceLT, Int.reduceEq]
  all_goals (first | (refine ⟨fun h_ => ?_, fun h_ => ?_⟩ <;> omega) | omega)
theorem mrKind3 (T J S E O L U C : Int) (D : ByteArray) (w : World) (hx : 1 ≤ T ∧ T ≤ 3) (hJ : 1 ≤ J ∧ J ≤ 1048576) : (fun r_ => Calls Try.prog 22 #[.agg #[.int .i64 3, .int .i64 0, .int .i64 T, .int .i64 J, .int .i64 S, .int .i64 E, .int .i64 O, .int .i64 L, .int .u32 U, .int .i64 C, .string D]] w fun e w' => e = .returned (.bool r_) ∧ Below w.heap.size w w') (decide (mrOk 3 0 T J S E O L U C D)) := by
  have hx1 : thresherref0_Num.f T 3 = some true := mrNumT (by omega)
  have hx2 : T ≠ 0 := by omega
  have hJ1 := mrIdT hJ
  by_cases h1 : 1 ≤ S ∧ S ≤ 1048576
  case neg =>
    refine mrNo (Q := fun r_ => Calls Try.prog 22 #[.agg #[.int .i64 3, .int .i64 0, .int .i64 T, .int .i64 J, .int .i64 S, .int .i64 E, .int .i64 O, .int .i64 L, .int .u32 U, .int .i64 C, .string D]] w fun e w' => e = .returned (.bool r_) ∧ Below w.heap.size w w') ?_ (mrGood30 T J S E O L U C D w hx1 hx2 hJ1 (mrIdF h1))
    intro h_
    unfold mrOk mrOk' at h_
    omega
  have i1 := mrIdT h1
  by_cases h2 : E < 1
  case pos =>
    refine mrNo (Q := fun r_ => Calls Try.prog 22 #[.agg #[.int .i64 3, .int .i64 0, .int .i64 T, .int .i64 J, .int .i64 S, .int .i64 E, .int .i64 O, .int .i64 L, .int .u32 U, .int .i64 C, .string D]] w fun e w' => e = .returned (.bool r_) ∧ Below w.heap.size w w') ?_ (mrGood31 T J S E O L U C D w hx1 hx2 hJ1 (⟨i1, h2⟩))
    intro h_
    unfold mrOk mrOk' at h_
    omega
  by_cases h3 : 1048576 < E
  case pos =>
    refine mrNo (Q := fun r_ => Calls Try.prog 22 #[.agg #[.int .i64 3, .int .i64 0, .int .i64 T, .int .i64 J, .int .i64 S, .int .i64 E, .int .i64 O, .int .i64 L, .int .u32 U, .int .i64 C, .string D]] w fun e w' => e = .returned (.bool r_) ∧ Below w.heap.size w w') ?_ (mrGood32 T J S E O L U C D w hx1 hx2 hJ1 (⟨i1, h3⟩))
    intro h_
    unfold mrOk mrOk' at h_
    omega
  have h4 : 1 ≤ E ∧ E ≤ 1048576 := by omega
  by_cases h5 : 0 ≤ O ∧ O ≤ 32768
  case neg =>
    refine mrNo (Q := fun r_ => Calls Try.prog 22 #[.agg #[.int .i64 3, .int .i64 0, .int .i64 T, .int .i64 J, .int .i64 S, .int .i64 E, .int .i64 O, .int .i64 L, .int .u32 U, .int .i64 C, .string D]] w fun e w' => e = .returned (.bool r_) ∧ Below w.heap.size w w') ?_ (mrGood33 T J S E O L U C D w hx1 hx2 hJ1 (⟨i1, h4, mrNumF h5⟩))
    intro h_
    unfold mrOk mrOk' at h_
    omega
  refine mrYes (Q := fun r_ => Calls Try.prog 22 #[.agg #[.int .i64 3, .int .i64 0, .int .i64 T, .int .i64 J, .int .i64 S, .int .i64 E, .int .i64 O, .int .i64 L, .int .u32 U, .int .i64 C, .string D]] w fun e w' => e = .returned (.bool r_) ∧ Below w.heap.size w w') ?_ (mrGood34 T J S E O L U C D w hx1 hx2 hJ1 (⟨i1, h4, mrNumT h5⟩))
  unfold mrOk mrOk'
  rw [mrEmp]
  generalize (D.toList == ([] : List UInt8)) = b_
  cases b_ <;> simp only [Bool.false_eq_true, and_false, and_true, or_false, iff_false, Bool.and_eq_true, beq_iff_eq, Bool.and_false, Bool.and_true, true_and, or_true, true_or, false_and, false_or, Int.reduceLE, Int.reduceLT, Int.reduceEq]
  all_goals (first | (refine ⟨fun h_ => ?_, fun h_ => ?_⟩ <;> omega) | omega)
theorem mrKind4 (F J S E O L U C : Int) (D : ByteArray) (w : World) (hx : 1 ≤ F ∧ F ≤ 3) (hJ : 1 ≤ J ∧ J ≤ 1048576) : (fun r_ => Calls Try.prog 22 #[.agg #[.int .i64 4, .int .i64 F, .int .i64 0, .int .i64 J, .int .i64 S, .int .i64 E, .int .i64 O, .int .i64 L, .int .u32 U, .int .i64 C, .string D]] w fun e w' => e = .returned (.bool r_) ∧ Below w.heap.size w w') (decide (mrOk 4 F 0 J S E O L U C D)) := by
  have hx1 : thresherref0_Num.f F 3 = some true := mrNumT (by omega)
  have hx2 : F ≠ 0 := by omega
  have hJ1 := mrIdT hJ
  by_cases h1 : 1 ≤ S ∧ S ≤ 1048576
  case neg =>
    refine mrNo (Q := fun r_ => Calls Try.prog 22 #[.agg #[.int .i64 4, .int .i64 F, .int .i64 0, .int .i64 J, .int .i64 S, .int .i64 E, .int .i64 O, .int .i64 L, .int .u32 U, .int .i64 C, .string D]] w fun e w' => e = .returned (.bool r_) ∧ Below w.heap.size w w') ?_ (mrGood40 F J S E O L U C D w hx1 hx2 hJ1 (mrIdF h1))
    intro h_
    unfold mrOk mrOk' at h_
    omega
  have i1 := mrIdT h1
  by_cases h2 : E < 1
  case pos =>
    refine mrNo (Q := fun r_ => Calls Try.prog 22 #[.agg #[.int .i64 4, .int .i64 F, .int .i64 0, .int .i64 J, .int .i64 S, .int .i64 E, .int .i64 O, .int .i64 L, .int .u32 U, .int .i64 C, .string D]] w fun e w' => e = .returned (.bool r_) ∧ Below w.heap.size w w') ?_ (mrGood41 F J S E O L U C D w hx1 hx2 hJ1 (⟨i1, h2⟩))
    intro h_
    unfold mrOk mrOk' at h_
    omega
  by_cases h3 : 1048576 < E
  case pos =>
    refine mrNo (Q := fun r_ => Calls Try.prog 22 #[.agg #[.int .i64 4, .int .i64 F, .int .i64 0, .int .i64 J, .int .i64 S, .int .i64 E, .int .i64 O, .int .i64 L, .int .u32 U, .int .i64 C, .string D]] w fun e w' => e = .returned (.bool r_) ∧ Below w.heap.size w w') ?_ (mrGood42 F J S E O L U C D w hx1 hx2 hJ1 (⟨i1, h3⟩))
    intro h_
    unfold mrOk mrOk' at h_
    omega
  have h4 : 1 ≤ E ∧ E ≤ 1048576 := by omega
  by_cases h5 : C < 1
  case pos =>
    refine mrNo (Q := fun r_ => Calls Try.prog 22 #[.agg #[.int .i64 4, .int .i64 F, .int .i64 0, .int .i64 J, .int .i64 S, .int .i64 E, .int .i64 O, .int .i64 L, .int .u32 U, .int .i64 C, .string D]] w fun e w' => e = .returned (.bool r_) ∧ Below w.heap.size w w') ?_ (mrGood43 F J S E O L U C D w hx1 hx2 hJ1 (⟨i1, h4, h5⟩))
    intro h_
    unfold mrOk mrOk' at h_
    omega
  by_cases h6 : 64 < C
  case pos =>
    refine mrNo (Q := fun r_ => Calls Try.prog 22 #[.agg #[.int .i64 4, .int .i64 F, .int .i64 0, .int .i64 J, .int .i64 S, .int .i64 E, .int .i64 O, .int .i64 L, .int .u32 U, .int .i64 C, .string D]] w fun e w' => e = .returned (.bool r_) ∧ Below w.heap.size w w') ?_ (mrGood44 F J S E O L U C D w hx1 hx2 hJ1 (⟨i1, h4, h6⟩))
    intro h_
    unfold mrOk mrOk' at h_
    omega
  by_cases h7 : C = 1
  case pos =>
    refine mrNo (Q := fun r_ => Calls Try.prog 22 #[.agg #[.int .i64 4, .int .i64 F, .int .i64 0, .int .i64 J, .int .i64 S, .int .i64 E, .int .i64 O, .int .i64 L, .int .u32 U, .int .i64 C, .string D]] w fun e w' => e = .returned (.bool r_) ∧ Below w.heap.size w w') ?_ (mrGood45 F J S E O L U C D w hx1 hx2 hJ1 (⟨i1, h4, h7⟩))
    intro h_
    unfold mrOk mrOk' at h_
    omega
  have h8 : 2 ≤ C ∧ C ≤ 64 := by omega
  refine mrYes (Q := fun r_ => Calls Try.prog 22 #[.agg #[.int .i64 4, .int .i64 F, .int .i64 0, .int .i64 J, .int .i64 S, .int .i64 E, .int .i64 O, .int .i64 L, .int .u32 U, .int .i64 C, .string D]] w fun e w' => e = .returned (.bool r_) ∧ Below w.heap.size w w') ?_ (mrGood46 F J S E O L U C D w hx1 hx2 hJ1 (⟨i1, h4, h8⟩))
  unfold mrOk mrOk'
  rw [mrEmp]
  generalize (D.toList == ([] : List UInt8)) = b_
  cases b_ <;> simp only [Bool.false_eq_true, and_false, and_true, or_false, iff_false, Bool.and_eq_true, beq_iff_eq, Bool.and_false, Bool.and_true, true_and, or_true, true_or, false_and, false_or, Int.reduceLE, Int.reduceLT, Int.reduceEq]
  all_goals (first | (refine ⟨fun h_ => ?_, fun h_ => ?_⟩ <;> omega) | omega)
theorem mrKind5 (T J S E O L U C : Int) (D : ByteArray) (w : World) (hx : 1 ≤ T ∧ T ≤ 3) (hJ : 1 ≤ J ∧ J ≤ 1048576) : (fun r_ => Calls Try.prog 22 #[.agg #[.int .i64 5, .int .i64 0, .int .i64 T, .int .i64 J, .int .i64 S, .int .i64 E, .int .i64 O, .int .i64 L, .int .u32 U, .int .i64 C, .string D]] w fun e w' => e = .returned (.bool r_) ∧ Below w.heap.size w w') (decide (mrOk 5 0 T J S E O L U C D)) := by
  have hx1 : thresherref0_Num.f T 3 = some true := mrNumT (by omega)
  have hx2 : T ≠ 0 := by omega
  have hJ1 := mrIdT hJ
  refine mrYes (Q := fun r_ => Calls Try.prog 22 #[.agg #[.int .i64 5, .int .i64 0, .int .i64 T, .int .i64 J, .int .i64 S, .int .i64 E, .int .i64 O, .int .i64 L, .int .u32 U, .int .i64 C, .string D]] w fun e w' => e = .returned (.bool r_) ∧ Below w.heap.size w w') ?_ (mrGood50 T J S E O L U C D w hx1 hx2 hJ1 (trivial))
  unfold mrOk mrOk'
  rw [mrEmp]
  generalize (D.toList == ([] : List UInt8)) = b_
  cases b_ <;> simp only [Bool.false_eq_true, and_false, and_true, or_false, iff_false, Bool.and_eq_true, beq_iff_eq, Bool.and_false, Bool.and_true, true_and, or_true, true_or, false_and, false_or, Int.reduceLE, Int.reduceLT, Int.reduceEq]
  all_goals (first | (refine ⟨fun h_ => ?_, fun h_ => ?_⟩ <;> omega) | omega)
theorem mrKind6 (F J S E O L U C : Int) (D : ByteArray) (w : World) (hx : 1 ≤ F ∧ F ≤ 3) (hJ : 1 ≤ J ∧ J ≤ 1048576) : (fun r_ => Calls Try.prog 22 #[.agg #[.int .i64 6, .int .i64 F, .int .i64 0, .int .i64 J, .int .i64 S, .int .i64 E, .int .i64 O, .int .i64 L, .int .u32 U, .int .i64 C, .string D]] w fun e w' => e = .returned (.bool r_) ∧ Below w.heap.size w w') (decide (mrOk 6 F 0 J S E O L U C D)) := by
  have hx1 : thresherref0_Num.f F 3 = some true := mrNumT (by omega)
  have hx2 : F ≠ 0 := by omega
  have hJ1 := mrIdT hJ
  refine mrYes (Q := fun r_ => Calls Try.prog 22 #[.agg #[.int .i64 6, .int .i64 F, .int .i64 0, .int .i64 J, .int .i64 S, .int .i64 E, .int .i64 O, .int .i64 L, .int .u32 U, .int .i64 C, .string D]] w fun e w' => e = .returned (.bool r_) ∧ Below w.heap.size w w') ?_ (mrGood60 F J S E O L U C D w hx1 hx2 hJ1 (trivial))
  unfold mrOk mrOk'
  rw [mrEmp]
  generalize (D.toList == ([] : List UInt8)) = b_
  cases b_ <;> simp only [Bool.false_eq_true, and_false, and_true, or_false, iff_false, Bool.and_eq_true, beq_iff_eq, Bool.and_false, Bool.and_true, true_and, or_true, true_or, false_and, false_or, Int.reduceLE, Int.reduceLT, Int.reduceEq]
  all_goals (first | (refine ⟨fun h_ => ?_, fun h_ => ?_⟩ <;> omega) | omega)
theorem mrKind7 (T J S E O L U C : Int) (D : ByteArray) (w : World) (hx : 1 ≤ T ∧ T ≤ 3) (hJ : 1 ≤ J ∧ J ≤ 1048576) : (fun r_ => Calls Try.prog 22 #[.agg #[.int .i64 7, .int .i64 0, .int .i64 T, .int .i64 J, .int .i64 S, .int .i64 E, .int .i64 O, .int .i64 L, .int .u32 U, .int .i64 C, .string D]] w fun e w' => e = .returned (.bool r_) ∧ Below w.heap.size w w') (decide (mrOk 7 0 T J S E O L U C D)) := by
  have hx1 : thresherref0_Num.f T 3 = some true := mrNumT (by omega)
  have hx2 : T ≠ 0 := by omega
  have hJ1 := mrIdT hJ
  by_cases h5 : C < 1
  case pos =>
    refine mrNo (Q := fun r_ => Calls Try.prog 22 #[.agg #[.int .i64 7, .int .i64 0, .int .i64 T, .int .i64 J, .int .i64 S, .int .i64 E, .int .i64 O, .int .i64 L, .int .u32 U, .int .i64 C, .string D]] w fun e w' => e = .returned (.bool r_) ∧ Below w.heap.size w w') ?_ (mrGood70 T J S E O L U C D w hx1 hx2 hJ1 (h5))
    intro h_
    unfold mrOk mrOk' at h_
    omega
  by_cases h6 : 64 < C
  case pos =>
    refine mrNo (Q := fun r_ => Calls Try.prog 22 #[.agg #[.int .i64 7, .int .i64 0, .int .i64 T, .int .i64 J, .int .i64 S, .int .i64 E, .int .i64 O, .int .i64 L, .int .u32 U, .int .i64 C, .string D]] w fun e w' => e = .returned (.bool r_) ∧ Below w.heap.size w w') ?_ (mrGood71 T J S E O L U C D w hx1 hx2 hJ1 (h6))
    intro h_
    unfold mrOk mrOk' at h_
    omega
  have h8 : 1 ≤ C ∧ C ≤ 64 := by omega
  refine mrYes (Q := fun r_ => Calls Try.prog 22 #[.agg #[.int .i64 7, .int .i64 0, .int .i64 T, .int .i64 J, .int .i64 S, .int .i64 E, .int .i64 O, .int .i64 L, .int .u32 U, .int .i64 C, .string D]] w fun e w' => e = .returned (.bool r_) ∧ Below w.heap.size w w') ?_ (mrGood72 T J S E O L U C D w hx1 hx2 hJ1 (h8))
  unfold mrOk mrOk'
  rw [mrEmp]
  generalize (D.toList == ([] : List UInt8)) = b_
  cases b_ <;> simp only [Bool.false_eq_true, and_false, and_true, or_false, iff_false, Bool.and_eq_true, beq_iff_eq, Bool.and_false, Bool.and_true, true_and, or_true, true_or, false_and, false_or, Int.reduceLE, Int.reduceLT, Int.reduceEq]
  all_goals (first | (refine ⟨fun h_ => ?_, fun h_ => ?_⟩ <;> omega) | omega)
theorem mrKind8 (F J S E O L U C : Int) (D : ByteArray) (w : World) (hx : 1 ≤ F ∧ F ≤ 3) (hJ : 1 ≤ J ∧ J ≤ 1048576) : (fun r_ => Calls Try.prog 22 #[.agg #[.int .i64 8, .int .i64 F, .int .i64 0, .int .i64 J, .int .i64 S, .int .i64 E, .int .i64 O, .int .i64 L, .int .u32 U, .int .i64 C, .string D]] w fun e w' => e = .returned (.bool r_) ∧ Below w.heap.size w w') (decide (mrOk 8 F 0 J S E O L U C D)) := by
  have hx1 : thresherref0_Num.f F 3 = some true := mrNumT (by omega)
  have hx2 : F ≠ 0 := by omega
  have hJ1 := mrIdT hJ
  refine mrYes (Q := fun r_ => Calls Try.prog 22 #[.agg #[.int .i64 8, .int .i64 F, .int .i64 0, .int .i64 J, .int .i64 S, .int .i64 E, .int .i64 O, .int .i64 L, .int .u32 U, .int .i64 C, .string D]] w fun e w' => e = .returned (.bool r_) ∧ Below w.heap.size w w') ?_ (mrGood80 F J S E O L U C D w hx1 hx2 hJ1 (trivial))
  unfold mrOk mrOk'
  rw [mrEmp]
  generalize (D.toList == ([] : List UInt8)) = b_
  cases b_ <;> simp only [Bool.false_eq_true, and_false, and_true, or_false, iff_false, Bool.and_eq_true, beq_iff_eq, Bool.and_false, Bool.and_true, true_and, or_true, true_or, false_and, false_or, Int.reduceLE, Int.reduceLT, Int.reduceEq]
  all_goals (first | (refine ⟨fun h_ => ?_, fun h_ => ?_⟩ <;> omega) | omega)
end MsgRef
def thresherref15_Msg.f (k : Nat) (a0_0 a0_1 a0_2 a0_3 a0_4 a0_5 a0_6 a0_7 a0_8 a0_9 : Int) (a0_10 : ByteArray) : Option Bool := some (decide (MsgRef.mrOk a0_0 a0_1 a0_2 a0_3 a0_4 a0_5 a0_6 a0_7 a0_8 a0_9 a0_10))
theorem thresherref15_Msg.calls (k : Nat) (K F T J S E O L U C : Int) (D : ByteArray) (r : Bool) (w : World) (h : thresherref15_Msg.f k K F T J S E O L U C D = some r) :
    Calls Try.prog 22 #[.agg #[.int .i64 K, .int .i64 F, .int .i64 T, .int .i64 J, .int .i64 S, .int .i64 E, .int .i64 O, .int .i64 L, .int .u32 U, .int .i64 C, .string D]] w fun e w' => e = .returned (.bool r) ∧ Below w.heap.size w w' := by
  obtain rfl := Option.some.inj h
  clear h
  by_cases h1 : K < 1
  · exact MsgRef.mrNo (Q := fun r_ => Calls Try.prog 22 #[.agg #[.int .i64 K, .int .i64 F, .int .i64 T, .int .i64 J, .int .i64 S, .int .i64 E, .int .i64 O, .int .i64 L, .int .u32 U, .int .i64 C, .string D]] w fun e w' => e = .returned (.bool r_) ∧ Below w.heap.size w w') (by intro h_; unfold MsgRef.mrOk MsgRef.mrOk' at h_; omega) (MsgRef.mrLow K F T J S E O L U C D w h1)
  by_cases h2 : 8 < K
  · exact MsgRef.mrNo (Q := fun r_ => Calls Try.prog 22 #[.agg #[.int .i64 K, .int .i64 F, .int .i64 T, .int .i64 J, .int .i64 S, .int .i64 E, .int .i64 O, .int .i64 L, .int .u32 U, .int .i64 C, .string D]] w fun e w' => e = .returned (.bool r_) ∧ Below w.heap.size w w') (by intro h_; unfold MsgRef.mrOk MsgRef.mrOk' at h_; omega) (MsgRef.mrHigh K F T J S E O L U C D w h2)
  have hK : 1 ≤ K ∧ K ≤ 8 := by omega
  by_cases h3 : 0 ≤ F ∧ F ≤ 3
  case neg => exact MsgRef.mrNo (Q := fun r_ => Calls Try.prog 22 #[.agg #[.int .i64 K, .int .i64 F, .int .i64 T, .int .i64 J, .int .i64 S, .int .i64 E, .int .i64 O, .int .i64 L, .int .u32 U, .int .i64 C, .string D]] w fun e w' => e = .returned (.bool r_) ∧ Below w.heap.size w w') (by intro h_; unfold MsgRef.mrOk MsgRef.mrOk' at h_; omega) (MsgRef.mrFrom K F T J S E O L U C D w hK (MsgRef.mrNumF h3))
  by_cases h4 : 0 ≤ T ∧ T ≤ 3
  case neg => exact MsgRef.mrNo (Q := fun r_ => Calls Try.prog 22 #[.agg #[.int .i64 K, .int .i64 F, .int .i64 T, .int .i64 J, .int .i64 S, .int .i64 E, .int .i64 O, .int .i64 L, .int .u32 U, .int .i64 C, .string D]] w fun e w' => e = .returned (.bool r_) ∧ Below w.heap.size w w') (by intro h_; unfold MsgRef.mrOk MsgRef.mrOk' at h_; omega) (MsgRef.mrTo K F T J S E O L U C D w hK (MsgRef.mrNumT h3) (MsgRef.mrNumF h4))
  by_cases h5 : F = 0
  · subst h5
    by_cases h6 : T = 0
    · subst h6
      exact MsgRef.mrNo (Q := fun r_ => Calls Try.prog 22 #[.agg #[.int .i64 K, .int .i64 0, .int .i64 0, .int .i64 J, .int .i64 S, .int .i64 E, .int .i64 O, .int .i64 L, .int .u32 U, .int .i64 C, .string D]] w fun e w' => e = .returned (.bool r_) ∧ Below w.heap.size w w') (by intro h_; unfold MsgRef.mrOk MsgRef.mrOk' at h_; omega) (MsgRef.mrNone K J S E O L U C D w hK)
    by_cases h7 : 1 ≤ J ∧ J ≤ 1048576
    case neg => exact MsgRef.mrNo (Q := fun r_ => Calls Try.prog 22 #[.agg #[.int .i64 K, .int .i64 0, .int .i64 T, .int .i64 J, .int .i64 S, .int .i64 E, .int .i64 O, .int .i64 L, .int .u32 U, .int .i64 C, .string D]] w fun e w' => e = .returned (.bool r_) ∧ Below w.heap.size w w') (by intro h_; unfold MsgRef.mrOk MsgRef.mrOk' at h_; omega) (MsgRef.mrJob0 K T J S E O L U C D w hK (MsgRef.mrNumT h4) h6 (MsgRef.mrIdF h7))
    obtain rfl | rfl | rfl | rfl | rfl | rfl | rfl | rfl : K = 1 ∨ K = 2 ∨ K = 3 ∨ K = 4 ∨ K = 5 ∨ K = 6 ∨ K = 7 ∨ K = 8 := by omega
    · exact MsgRef.mrKind1 T J S E O L U C D w (by omega) h7
    · exact MsgRef.mrNo (Q := fun r_ => Calls Try.prog 22 #[.agg #[.int .i64 2, .int .i64 0, .int .i64 T, .int .i64 J, .int .i64 S, .int .i64 E, .int .i64 O, .int .i64 L, .int .u32 U, .int .i64 C, .string D]] w fun e w' => e = .returned (.bool r_) ∧ Below w.heap.size w w') (by intro h_; unfold MsgRef.mrOk MsgRef.mrOk' at h_; omega) (MsgRef.mrWay2 T J S E O L U C D w (MsgRef.mrNumT h4) h6 (MsgRef.mrIdT h7))
    · exact MsgRef.mrKind3 T J S E O L U C D w (by omega) h7
    · exact MsgRef.mrNo (Q := fun r_ => Calls Try.prog 22 #[.agg #[.int .i64 4, .int .i64 0, .int .i64 T, .int .i64 J, .int .i64 S, .int .i64 E, .int .i64 O, .int .i64 L, .int .u32 U, .int .i64 C, .string D]] w fun e w' => e = .returned (.bool r_) ∧ Below w.heap.size w w') (by intro h_; unfold MsgRef.mrOk MsgRef.mrOk' at h_; omega) (MsgRef.mrWay4 T J S E O L U C D w (MsgRef.mrNumT h4) h6 (MsgRef.mrIdT h7))
    · exact MsgRef.mrKind5 T J S E O L U C D w (by omega) h7
    · exact MsgRef.mrNo (Q := fun r_ => Calls Try.prog 22 #[.agg #[.int .i64 6, .int .i64 0, .int .i64 T, .int .i64 J, .int .i64 S, .int .i64 E, .int .i64 O, .int .i64 L, .int .u32 U, .int .i64 C, .string D]] w fun e w' => e = .returned (.bool r_) ∧ Below w.heap.size w w') (by intro h_; unfold MsgRef.mrOk MsgRef.mrOk' at h_; omega) (MsgRef.mrWay6 T J S E O L U C D w (MsgRef.mrNumT h4) h6 (MsgRef.mrIdT h7))
    · exact MsgRef.mrKind7 T J S E O L U C D w (by omega) h7
    · exact MsgRef.mrNo (Q := fun r_ => Calls Try.prog 22 #[.agg #[.int .i64 8, .int .i64 0, .int .i64 T, .int .i64 J, .int .i64 S, .int .i64 E, .int .i64 O, .int .i64 L, .int .u32 U, .int .i64 C, .string D]] w fun e w' => e = .returned (.bool r_) ∧ Below w.heap.size w w') (by intro h_; unfold MsgRef.mrOk MsgRef.mrOk' at h_; omega) (MsgRef.mrWay8 T J S E O L U C D w (MsgRef.mrNumT h4) h6 (MsgRef.mrIdT h7))
  · by_cases h6 : T = 0
    case neg => exact MsgRef.mrNo (Q := fun r_ => Calls Try.prog 22 #[.agg #[.int .i64 K, .int .i64 F, .int .i64 T, .int .i64 J, .int .i64 S, .int .i64 E, .int .i64 O, .int .i64 L, .int .u32 U, .int .i64 C, .string D]] w fun e w' => e = .returned (.bool r_) ∧ Below w.heap.size w w') (by intro h_; unfold MsgRef.mrOk MsgRef.mrOk' at h_; omega) (MsgRef.mrBoth K F T J S E O L U C D w hK (MsgRef.mrNumT h3) (MsgRef.mrNumT h4) h5 h6)
    subst h6
    by_cases h7 : 1 ≤ J ∧ J ≤ 1048576
    case neg => exact MsgRef.mrNo (Q := fun r_ => Calls Try.prog 22 #[.agg #[.int .i64 K, .int .i64 F, .int .i64 0, .int .i64 J, .int .i64 S, .int .i64 E, .int .i64 O, .int .i64 L, .int .u32 U, .int .i64 C, .string D]] w fun e w' => e = .returned (.bool r_) ∧ Below w.heap.size w w') (by intro h_; unfold MsgRef.mrOk MsgRef.mrOk' at h_; omega) (MsgRef.mrJob1 K F J S E O L U C D w hK (MsgRef.mrNumT h3) h5 (MsgRef.mrIdF h7))
    obtain rfl | rfl | rfl | rfl | rfl | rfl | rfl | rfl : K = 1 ∨ K = 2 ∨ K = 3 ∨ K = 4 ∨ K = 5 ∨ K = 6 ∨ K = 7 ∨ K = 8 := by omega
    · exact MsgRef.mrNo (Q := fun r_ => Calls Try.prog 22 #[.agg #[.int .i64 1, .int .i64 F, .int .i64 0, .int .i64 J, .int .i64 S, .int .i64 E, .int .i64 O, .int .i64 L, .int .u32 U, .int .i64 C, .string D]] w fun e w' => e = .returned (.bool r_) ∧ Below w.heap.size w w') (by intro h_; unfold MsgRef.mrOk MsgRef.mrOk' at h_; omega) (MsgRef.mrWay1 F J S E O L U C D w (MsgRef.mrNumT h3) h5 (MsgRef.mrIdT h7))
    · exact MsgRef.mrKind2 F J S E O L U C D w (by omega) h7
    · exact MsgRef.mrNo (Q := fun r_ => Calls Try.prog 22 #[.agg #[.int .i64 3, .int .i64 F, .int .i64 0, .int .i64 J, .int .i64 S, .int .i64 E, .int .i64 O, .int .i64 L, .int .u32 U, .int .i64 C, .string D]] w fun e w' => e = .returned (.bool r_) ∧ Below w.heap.size w w') (by intro h_; unfold MsgRef.mrOk MsgRef.mrOk' at h_; omega) (MsgRef.mrWay3 F J S E O L U C D w (MsgRef.mrNumT h3) h5 (MsgRef.mrIdT h7))
    · exact MsgRef.mrKind4 F J S E O L U C D w (by omega) h7
    · exact MsgRef.mrNo (Q := fun r_ => Calls Try.prog 22 #[.agg #[.int .i64 5, .int .i64 F, .int .i64 0, .int .i64 J, .int .i64 S, .int .i64 E, .int .i64 O, .int .i64 L, .int .u32 U, .int .i64 C, .string D]] w fun e w' => e = .returned (.bool r_) ∧ Below w.heap.size w w') (by intro h_; unfold MsgRef.mrOk MsgRef.mrOk' at h_; omega) (MsgRef.mrWay5 F J S E O L U C D w (MsgRef.mrNumT h3) h5 (MsgRef.mrIdT h7))
    · exact MsgRef.mrKind6 F J S E O L U C D w (by omega) h7
    · exact MsgRef.mrNo (Q := fun r_ => Calls Try.prog 22 #[.agg #[.int .i64 7, .int .i64 F, .int .i64 0, .int .i64 J, .int .i64 S, .int .i64 E, .int .i64 O, .int .i64 L, .int .u32 U, .int .i64 C, .string D]] w fun e w' => e = .returned (.bool r_) ∧ Below w.heap.size w w') (by intro h_; unfold MsgRef.mrOk MsgRef.mrOk' at h_; omega) (MsgRef.mrWay7 F J S E O L U C D w (MsgRef.mrNumT h3) h5 (MsgRef.mrIdT h7))
    · exact MsgRef.mrKind8 F J S E O L U C D w (by omega) h7


end Go.Proofs.Ytjboibdoelkfpaa.Q
