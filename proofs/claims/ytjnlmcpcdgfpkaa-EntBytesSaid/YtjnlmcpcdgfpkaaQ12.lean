/- Contracts of the Go functions that these laws reach: each call answers what the plain Lean function beside it says. Written by a program of this session (pp.py). -/
import Derived.Test.YtjnlmcpcdgfpkaaQ0
import Derived.Test.YtjnlmcpcdgfpkaaQ1
import Derived.Test.YtjnlmcpcdgfpkaaQ2
import Derived.Test.YtjnlmcpcdgfpkaaQ3
import Derived.Test.YtjnlmcpcdgfpkaaQ8
import Derived.Test.YtjnlmcpcdgfpkaaQ9
import Derived.Test.YtjnlmcpcdgfpkaaQ10
namespace Go.Proofs.Ytjnlmcpcdgfpkaa.Q
open Go.RowKit Go.Proofs.YtjnlmcpcdgfpkaaW.PrintWords Go.Proofs.YtjnlmcpcdgfpkaaW.PrintLast Go.Proofs.YtjnlmcpcdgfpkaaW.PrintMore
attribute [local go_sem] max2_int min2_int max_two min_two max_three min_three max_four min_four   -- for this text's walks alone
set_option linter.unusedVariables false
set_option linter.unusedSimpArgs false

attribute [local go_sem high] eqA26
/-! ### thresherlaw16_kind: function 32 -/
mutual
def thresherlaw16_kind.l0 : Nat → Int → Int → List (S26) → ByteArray → Option (Bool)
 | 0, _, _, _, _ => none
 | k + 1, x1, x5, x347000, x347001 => if x5 < (x347000.length : Int) then (thresherlaw16_kind.j1 k x1 x5 (decide (x5 < 12)) x347000 x347001) else (thresherlaw16_kind.j1 k x1 x5 false x347000 x347001)
def thresherlaw16_kind.j1 : Nat → Int → Int → Bool → List (S26) → ByteArray → Option (Bool)
 | 0, _, _, _, _, _ => none
 | k + 1, x1, x5, x25, x347000, x347001 => if x25 = true then (if 0 ≤ x5 then (if x5 < (x347000.length : Int) then (if x1 = 2 then (thresherlaw16_kind.j2 k x1 x5 x347000 x347001 x1 ((rd_T26 x347000 x5).f1) ((rd_T26 x347000 x5).f2) 0 ((rd_T26 x347000 x5).f4)) else (if x1 = 3 then (thresherlaw16_kind.j2 k x1 x5 x347000 x347001 x1 ((rd_T26 x347000 x5).f1) 0 ((rd_T26 x347000 x5).f3) ((rd_T26 x347000 x5).f4)) else (if x1 = 5 then (thresherlaw16_kind.j2 k x1 x5 x347000 x347001 x1 ((rd_T26 x347000 x5).f1) 0 ((rd_T26 x347000 x5).f3) ((rd_T26 x347000 x5).f4)) else (thresherlaw16_kind.j2 k x1 x5 x347000 x347001 x1 ((rd_T26 x347000 x5).f1) 0 0 ((rd_T26 x347000 x5).f4))))) else (none)) else (none)) else ((thresherlaw16_wakes.f k).bind fun t348 => (some t348))
def thresherlaw16_kind.j2 : Nat → Int → Int → List (S26) → ByteArray → Int → Int → Int → Int → ByteArray → Option (Bool)
 | 0, _, _, _, _, _, _, _, _, _ => none
 | k + 1, x1, x5, x347000, x347001, x352000, x352001, x352002, x352003, x352004 => if x1 = 4 then (thresherlaw16_kind.j3 k x1 x5 true x347000 x347001 x352000 x352001 x352002 x352003 x352004) else (if x1 = 5 then (thresherlaw16_kind.j3 k x1 x5 true x347000 x347001 x352000 x352001 x352002 x352003 x352004) else (if x1 = 3 then (thresherlaw16_kind.j3 k x1 x5 (x352003 != 1) x347000 x347001 x352000 x352001 x352002 x352003 x352004) else (thresherlaw16_kind.j3 k x1 x5 false x347000 x347001 x352000 x352001 x352002 x352003 x352004)))
def thresherlaw16_kind.j3 : Nat → Int → Int → Bool → List (S26) → ByteArray → Int → Int → Int → Int → ByteArray → Option (Bool)
 | 0, _, _, _, _, _, _, _, _, _, _ => none
 | k + 1, x1, x5, x76, x347000, x347001, x352000, x352001, x352002, x352003, x352004 => if x76 = true then (thresherlaw16_kind.j4 k x1 x5 x347000 x347001 x352000 x352001 x352002 x352003 (⟨#[]⟩ : ByteArray)) else (thresherlaw16_kind.j4 k x1 x5 x347000 x347001 x352000 x352001 x352002 x352003 x352004)
def thresherlaw16_kind.j4 : Nat → Int → Int → List (S26) → ByteArray → Int → Int → Int → Int → ByteArray → Option (Bool)
 | 0, _, _, _, _, _, _, _, _, _ => none
 | k + 1, x1, x5, x347000, x347001, x352000, x352001, x352002, x352003, x352004 => (ent_Bytes.f k x352000 x352001 x352002 x352003 x352004).bind fun bt355 => ((thresherref15_Entry.f k x352000 x352001 x352002 x352003 x352004).bind fun t357 => (if t357 = true then ((thresherref15_EntBytes.f k x352000 x352001 x352002 x352003 x352004).bind fun t358 => (thresherlaw16_kind.j5 k x1 x5 bt355.1 bt355.2 0 t358 x347000 x347001)) else (thresherlaw16_kind.j5 k x1 x5 bt355.1 bt355.2 1 (⟨#[]⟩ : ByteArray) x347000 x347001)))
def thresherlaw16_kind.j5 : Nat → Int → Int → ByteArray → Int → Int → ByteArray → List (S26) → ByteArray → Option (Bool)
 | 0, _, _, _, _, _, _, _, _ => none
 | k + 1, x1, x5, x7, x8, x9, x10, x347000, x347001 => (thresherlaw16_num.f x8).bind fun t359 => (if t359 = x9 then (thresherlaw16_kind.j6 k x1 x5 x7 x10 (x7.toList != x10.toList) x347000 x347001) else (thresherlaw16_kind.j6 k x1 x5 x7 x10 true x347000 x347001))
def thresherlaw16_kind.j6 : Nat → Int → Int → ByteArray → ByteArray → Bool → List (S26) → ByteArray → Option (Bool)
 | 0, _, _, _, _, _, _, _ => none
 | k + 1, x1, x5, x7, x10, x95, x347000, x347001 => if x95 = true then (some false) else ((ent_Take.f k x7).bind fun bt360 => ((thresherref15_TakeEnt.f k x10).bind fun bt367 => ((thresherlaw16_num.f bt360.2.2.2.2.2).bind fun t374 => (if t374 = bt367.2.2.2.2.2 then (if (!(bt360.1 == bt367.1) || (!(bt360.2.1 == bt367.2.1) || (!(bt360.2.2.1 == bt367.2.2.1) || (!(bt360.2.2.2.1 == bt367.2.2.2.1) || (!(bt360.2.2.2.2.1.toList == bt367.2.2.2.2.1.toList)))))) = true then (some false) else (thresherlaw16_kind.l0 k x1 (wrap64 (x5 + 1)) x347000 x347001)) else (some false)))))
end
def thresherlaw16_kind.f (k : Nat) (l0_0 : List (S26)) (a0_1 : ByteArray) (a1 : Int) : Option (Bool) := (thresherlaw16_Heavy.f k l0_0 a0_1).bind fun t347 => (if t347 = true then (some true) else (thresherlaw16_kind.l0 k a1 0 l0_0 a0_1))
theorem thresherlaw16_kind.mono_l : ∀ k, (∀ y0 y1 y2 y3, LeO (thresherlaw16_kind.l0 k y0 y1 y2 y3) (thresherlaw16_kind.l0 (k + 1) y0 y1 y2 y3)) ∧ (∀ y0 y1 y2 y3 y4, LeO (thresherlaw16_kind.j1 k y0 y1 y2 y3 y4) (thresherlaw16_kind.j1 (k + 1) y0 y1 y2 y3 y4)) ∧ (∀ y0 y1 y2 y3 y4 y5 y6 y7 y8, LeO (thresherlaw16_kind.j2 k y0 y1 y2 y3 y4 y5 y6 y7 y8) (thresherlaw16_kind.j2 (k + 1) y0 y1 y2 y3 y4 y5 y6 y7 y8)) ∧ (∀ y0 y1 y2 y3 y4 y5 y6 y7 y8 y9, LeO (thresherlaw16_kind.j3 k y0 y1 y2 y3 y4 y5 y6 y7 y8 y9) (thresherlaw16_kind.j3 (k + 1) y0 y1 y2 y3 y4 y5 y6 y7 y8 y9)) ∧ (∀ y0 y1 y2 y3 y4 y5 y6 y7 y8, LeO (thresherlaw16_kind.j4 k y0 y1 y2 y3 y4 y5 y6 y7 y8) (thresherlaw16_kind.j4 (k + 1) y0 y1 y2 y3 y4 y5 y6 y7 y8)) ∧ (∀ y0 y1 y2 y3 y4 y5 y6 y7, LeO (thresherlaw16_kind.j5 k y0 y1 y2 y3 y4 y5 y6 y7) (thresherlaw16_kind.j5 (k + 1) y0 y1 y2 y3 y4 y5 y6 y7)) ∧ (∀ y0 y1 y2 y3 y4 y5 y6, LeO (thresherlaw16_kind.j6 k y0 y1 y2 y3 y4 y5 y6) (thresherlaw16_kind.j6 (k + 1) y0 y1 y2 y3 y4 y5 y6))
 | 0 => ⟨fun _ _ _ _ r h => by simp [thresherlaw16_kind.l0] at h, fun _ _ _ _ _ r h => by simp [thresherlaw16_kind.j1] at h, fun _ _ _ _ _ _ _ _ _ r h => by simp [thresherlaw16_kind.j2] at h, fun _ _ _ _ _ _ _ _ _ _ r h => by simp [thresherlaw16_kind.j3] at h, fun _ _ _ _ _ _ _ _ _ r h => by simp [thresherlaw16_kind.j4] at h, fun _ _ _ _ _ _ _ _ r h => by simp [thresherlaw16_kind.j5] at h, fun _ _ _ _ _ _ _ r h => by simp [thresherlaw16_kind.j6] at h⟩
 | k + 1 => by
  obtain ⟨ih0, ih1, ih2, ih3, ih4, ih5, ih6⟩ := thresherlaw16_kind.mono_l k
  refine ⟨?_, ?_, ?_, ?_, ?_, ?_, ?_⟩
  ·
   intro y0 y1 y2 y3
   unfold thresherlaw16_kind.l0
   repeat' first
   | (with_reducible exact ih0 _ _ _ _)
   | (with_reducible exact ih1 _ _ _ _ _)
   | (with_reducible exact ih2 _ _ _ _ _ _ _ _ _)
   | (with_reducible exact ih3 _ _ _ _ _ _ _ _ _ _)
   | (with_reducible exact ih4 _ _ _ _ _ _ _ _ _)
   | (with_reducible exact ih5 _ _ _ _ _ _ _ _)
   | (with_reducible exact ih6 _ _ _ _ _ _ _)
   | (with_reducible exact ent_Bytes.mono _ _ _ _ _ _)
   | (with_reducible exact ent_Take.mono _ _)
   | (with_reducible exact thresherlaw16_Heavy.mono _ _ _)
   | (with_reducible exact thresherlaw16_wakes.mono _)
   | (with_reducible exact thresherref15_EntBytes.mono _ _ _ _ _ _)
   | (with_reducible exact thresherref15_Entry.mono _ _ _ _ _ _)
   | (with_reducible exact thresherref15_TakeEnt.mono _ _)
   | (with_reducible exact LeO.refl _)
   | (with_reducible exact LeO.none _)
   | (with_reducible refine LeO.ite ?_ ?_)
   | (with_reducible refine LeO.bind ?_ (fun _ => ?_))
   | exact ih0 _ _ _ _
   | exact ih1 _ _ _ _ _
   | exact ih2 _ _ _ _ _ _ _ _ _
   | exact ih3 _ _ _ _ _ _ _ _ _ _
   | exact ih4 _ _ _ _ _ _ _ _ _
   | exact ih5 _ _ _ _ _ _ _ _
   | exact ih6 _ _ _ _ _ _ _
   | exact ent_Bytes.mono _ _ _ _ _ _
   | exact ent_Take.mono _ _
   | exact thresherlaw16_Heavy.mono _ _ _
   | exact thresherlaw16_wakes.mono _
   | exact thresherref15_EntBytes.mono _ _ _ _ _ _
   | exact thresherref15_Entry.mono _ _ _ _ _ _
   | exact thresherref15_TakeEnt.mono _ _
   | exact LeO.none _
   | refine LeO.ite ?_ ?_
   | refine LeO.bind ?_ (fun _ => ?_)
  ·
   intro y0 y1 y2 y3 y4
   unfold thresherlaw16_kind.j1
   repeat' first
   | (with_reducible exact ih0 _ _ _ _)
   | (with_reducible exact ih1 _ _ _ _ _)
   | (with_reducible exact ih2 _ _ _ _ _ _ _ _ _)
   | (with_reducible exact ih3 _ _ _ _ _ _ _ _ _ _)
   | (with_reducible exact ih4 _ _ _ _ _ _ _ _ _)
   | (with_reducible exact ih5 _ _ _ _ _ _ _ _)
   | (with_reducible exact ih6 _ _ _ _ _ _ _)
   | (with_reducible exact ent_Bytes.mono _ _ _ _ _ _)
   | (with_reducible exact ent_Take.mono _ _)
   | (with_reducible exact thresherlaw16_Heavy.mono _ _ _)
   | (with_reducible exact thresherlaw16_wakes.mono _)
   | (with_reducible exact thresherref15_EntBytes.mono _ _ _ _ _ _)
   | (with_reducible exact thresherref15_Entry.mono _ _ _ _ _ _)
   | (with_reducible exact thresherref15_TakeEnt.mono _ _)
   | (with_reducible exact LeO.refl _)
   | (with_reducible exact LeO.none _)
   | (with_reducible refine LeO.ite ?_ ?_)
   | (with_reducible refine LeO.bind ?_ (fun _ => ?_))
   | exact ih0 _ _ _ _
   | exact ih1 _ _ _ _ _
   | exact ih2 _ _ _ _ _ _ _ _ _
   | exact ih3 _ _ _ _ _ _ _ _ _ _
   | exact ih4 _ _ _ _ _ _ _ _ _
   | exact ih5 _ _ _ _ _ _ _ _
   | exact ih6 _ _ _ _ _ _ _
   | exact ent_Bytes.mono _ _ _ _ _ _
   | exact ent_Take.mono _ _
   | exact thresherlaw16_Heavy.mono _ _ _
   | exact thresherlaw16_wakes.mono _
   | exact thresherref15_EntBytes.mono _ _ _ _ _ _
   | exact thresherref15_Entry.mono _ _ _ _ _ _
   | exact thresherref15_TakeEnt.mono _ _
   | exact LeO.none _
   | refine LeO.ite ?_ ?_
   | refine LeO.bind ?_ (fun _ => ?_)
  ·
   intro y0 y1 y2 y3 y4 y5 y6 y7 y8
   unfold thresherlaw16_kind.j2
   repeat' first
   | (with_reducible exact ih0 _ _ _ _)
   | (with_reducible exact ih1 _ _ _ _ _)
   | (with_reducible exact ih2 _ _ _ _ _ _ _ _ _)
   | (with_reducible exact ih3 _ _ _ _ _ _ _ _ _ _)
   | (with_reducible exact ih4 _ _ _ _ _ _ _ _ _)
   | (with_reducible exact ih5 _ _ _ _ _ _ _ _)
   | (with_reducible exact ih6 _ _ _ _ _ _ _)
   | (with_reducible exact ent_Bytes.mono _ _ _ _ _ _)
   | (with_reducible exact ent_Take.mono _ _)
   | (with_reducible exact thresherlaw16_Heavy.mono _ _ _)
   | (with_reducible exact thresherlaw16_wakes.mono _)
   | (with_reducible exact thresherref15_EntBytes.mono _ _ _ _ _ _)
   | (with_reducible exact thresherref15_Entry.mono _ _ _ _ _ _)
   | (with_reducible exact thresherref15_TakeEnt.mono _ _)
   | (with_reducible exact LeO.refl _)
   | (with_reducible exact LeO.none _)
   | (with_reducible refine LeO.ite ?_ ?_)
   | (with_reducible refine LeO.bind ?_ (fun _ => ?_))
   | exact ih0 _ _ _ _
   | exact ih1 _ _ _ _ _
   | exact ih2 _ _ _ _ _ _ _ _ _
   | exact ih3 _ _ _ _ _ _ _ _ _ _
   | exact ih4 _ _ _ _ _ _ _ _ _
   | exact ih5 _ _ _ _ _ _ _ _
   | exact ih6 _ _ _ _ _ _ _
   | exact ent_Bytes.mono _ _ _ _ _ _
   | exact ent_Take.mono _ _
   | exact thresherlaw16_Heavy.mono _ _ _
   | exact thresherlaw16_wakes.mono _
   | exact thresherref15_EntBytes.mono _ _ _ _ _ _
   | exact thresherref15_Entry.mono _ _ _ _ _ _
   | exact thresherref15_TakeEnt.mono _ _
   | exact LeO.none _
   | refine LeO.ite ?_ ?_
   | refine LeO.bind ?_ (fun _ => ?_)
  ·
   intro y0 y1 y2 y3 y4 y5 y6 y7 y8 y9
   unfold thresherlaw16_kind.j3
   repeat' first
   | (with_reducible exact ih0 _ _ _ _)
   | (with_reducible exact ih1 _ _ _ _ _)
   | (with_reducible exact ih2 _ _ _ _ _ _ _ _ _)
   | (with_reducible exact ih3 _ _ _ _ _ _ _ _ _ _)
   | (with_reducible exact ih4 _ _ _ _ _ _ _ _ _)
   | (with_reducible exact ih5 _ _ _ _ _ _ _ _)
   | (with_reducible exact ih6 _ _ _ _ _ _ _)
   | (with_reducible exact ent_Bytes.mono _ _ _ _ _ _)
   | (with_reducible exact ent_Take.mono _ _)
   | (with_reducible exact thresherlaw16_Heavy.mono _ _ _)
   | (with_reducible exact thresherlaw16_wakes.mono _)
   | (with_reducible exact thresherref15_EntBytes.mono _ _ _ _ _ _)
   | (with_reducible exact thresherref15_Entry.mono _ _ _ _ _ _)
   | (with_reducible exact thresherref15_TakeEnt.mono _ _)
   | (with_reducible exact LeO.refl _)
   | (with_reducible exact LeO.none _)
   | (with_reducible refine LeO.ite ?_ ?_)
   | (with_reducible refine LeO.bind ?_ (fun _ => ?_))
   | exact ih0 _ _ _ _
   | exact ih1 _ _ _ _ _
   | exact ih2 _ _ _ _ _ _ _ _ _
   | exact ih3 _ _ _ _ _ _ _ _ _ _
   | exact ih4 _ _ _ _ _ _ _ _ _
   | exact ih5 _ _ _ _ _ _ _ _
   | exact ih6 _ _ _ _ _ _ _
   | exact ent_Bytes.mono _ _ _ _ _ _
   | exact ent_Take.mono _ _
   | exact thresherlaw16_Heavy.mono _ _ _
   | exact thresherlaw16_wakes.mono _
   | exact thresherref15_EntBytes.mono _ _ _ _ _ _
   | exact thresherref15_Entry.mono _ _ _ _ _ _
   | exact thresherref15_TakeEnt.mono _ _
   | exact LeO.none _
   | refine LeO.ite ?_ ?_
   | refine LeO.bind ?_ (fun _ => ?_)
  ·
   intro y0 y1 y2 y3 y4 y5 y6 y7 y8
   unfold thresherlaw16_kind.j4
   repeat' first
   | (with_reducible exact ih0 _ _ _ _)
   | (with_reducible exact ih1 _ _ _ _ _)
   | (with_reducible exact ih2 _ _ _ _ _ _ _ _ _)
   | (with_reducible exact ih3 _ _ _ _ _ _ _ _ _ _)
   | (with_reducible exact ih4 _ _ _ _ _ _ _ _ _)
   | (with_reducible exact ih5 _ _ _ _ _ _ _ _)
   | (with_reducible exact ih6 _ _ _ _ _ _ _)
   | (with_reducible exact ent_Bytes.mono _ _ _ _ _ _)
   | (with_reducible exact ent_Take.mono _ _)
   | (with_reducible exact thresherlaw16_Heavy.mono _ _ _)
   | (with_reducible exact thresherlaw16_wakes.mono _)
   | (with_reducible exact thresherref15_EntBytes.mono _ _ _ _ _ _)
   | (with_reducible exact thresherref15_Entry.mono _ _ _ _ _ _)
   | (with_reducible exact thresherref15_TakeEnt.mono _ _)
   | (with_reducible exact LeO.refl _)
   | (with_reducible exact LeO.none _)
   | (with_reducible refine LeO.ite ?_ ?_)
   | (with_reducible refine LeO.bind ?_ (fun _ => ?_))
   | exact ih0 _ _ _ _
   | exact ih1 _ _ _ _ _
   | exact ih2 _ _ _ _ _ _ _ _ _
   | exact ih3 _ _ _ _ _ _ _ _ _ _
   | exact ih4 _ _ _ _ _ _ _ _ _
   | exact ih5 _ _ _ _ _ _ _ _
   | exact ih6 _ _ _ _ _ _ _
   | exact ent_Bytes.mono _ _ _ _ _ _
   | exact ent_Take.mono _ _
   | exact thresherlaw16_Heavy.mono _ _ _
   | exact thresherlaw16_wakes.mono _
   | exact thresherref15_EntBytes.mono _ _ _ _ _ _
   | exact thresherref15_Entry.mono _ _ _ _ _ _
   | exact thresherref15_TakeEnt.mono _ _
   | exact LeO.none _
   | refine LeO.ite ?_ ?_
   | refine LeO.bind ?_ (fun _ => ?_)
  ·
   intro y0 y1 y2 y3 y4 y5 y6 y7
   unfold thresherlaw16_kind.j5
   repeat' first
   | (with_reducible exact ih0 _ _ _ _)
   | (with_reducible exact ih1 _ _ _ _ _)
   | (with_reducible exact ih2 _ _ _ _ _ _ _ _ _)
   | (with_reducible exact ih3 _ _ _ _ _ _ _ _ _ _)
   | (with_reducible exact ih4 _ _ _ _ _ _ _ _ _)
   | (with_reducible exact ih5 _ _ _ _ _ _ _ _)
   | (with_reducible exact ih6 _ _ _ _ _ _ _)
   | (with_reducible exact ent_Bytes.mono _ _ _ _ _ _)
   | (with_reducible exact ent_Take.mono _ _)
   | (with_reducible exact thresherlaw16_Heavy.mono _ _ _)
   | (with_reducible exact thresherlaw16_wakes.mono _)
   | (with_reducible exact thresherref15_EntBytes.mono _ _ _ _ _ _)
   | (with_reducible exact thresherref15_Entry.mono _ _ _ _ _ _)
   | (with_reducible exact thresherref15_TakeEnt.mono _ _)
   | (with_reducible exact LeO.refl _)
   | (with_reducible exact LeO.none _)
   | (with_reducible refine LeO.ite ?_ ?_)
   | (with_reducible refine LeO.bind ?_ (fun _ => ?_))
   | exact ih0 _ _ _ _
   | exact ih1 _ _ _ _ _
   | exact ih2 _ _ _ _ _ _ _ _ _
   | exact ih3 _ _ _ _ _ _ _ _ _ _
   | exact ih4 _ _ _ _ _ _ _ _ _
   | exact ih5 _ _ _ _ _ _ _ _
   | exact ih6 _ _ _ _ _ _ _
   | exact ent_Bytes.mono _ _ _ _ _ _
   | exact ent_Take.mono _ _
   | exact thresherlaw16_Heavy.mono _ _ _
   | exact thresherlaw16_wakes.mono _
   | exact thresherref15_EntBytes.mono _ _ _ _ _ _
   | exact thresherref15_Entry.mono _ _ _ _ _ _
   | exact thresherref15_TakeEnt.mono _ _
   | exact LeO.none _
   | refine LeO.ite ?_ ?_
   | refine LeO.bind ?_ (fun _ => ?_)
  ·
   intro y0 y1 y2 y3 y4 y5 y6
   unfold thresherlaw16_kind.j6
   repeat' first
   | (with_reducible exact ih0 _ _ _ _)
   | (with_reducible exact ih1 _ _ _ _ _)
   | (with_reducible exact ih2 _ _ _ _ _ _ _ _ _)
   | (with_reducible exact ih3 _ _ _ _ _ _ _ _ _ _)
   | (with_reducible exact ih4 _ _ _ _ _ _ _ _ _)
   | (with_reducible exact ih5 _ _ _ _ _ _ _ _)
   | (with_reducible exact ih6 _ _ _ _ _ _ _)
   | (with_reducible exact ent_Bytes.mono _ _ _ _ _ _)
   | (with_reducible exact ent_Take.mono _ _)
   | (with_reducible exact thresherlaw16_Heavy.mono _ _ _)
   | (with_reducible exact thresherlaw16_wakes.mono _)
   | (with_reducible exact thresherref15_EntBytes.mono _ _ _ _ _ _)
   | (with_reducible exact thresherref15_Entry.mono _ _ _ _ _ _)
   | (with_reducible exact thresherref15_TakeEnt.mono _ _)
   | (with_reducible exact LeO.refl _)
   | (with_reducible exact LeO.none _)
   | (with_reducible refine LeO.ite ?_ ?_)
   | (with_reducible refine LeO.bind ?_ (fun _ => ?_))
   | exact ih0 _ _ _ _
   | exact ih1 _ _ _ _ _
   | exact ih2 _ _ _ _ _ _ _ _ _
   | exact ih3 _ _ _ _ _ _ _ _ _ _
   | exact ih4 _ _ _ _ _ _ _ _ _
   | exact ih5 _ _ _ _ _ _ _ _
   | exact ih6 _ _ _ _ _ _ _
   | exact ent_Bytes.mono _ _ _ _ _ _
   | exact ent_Take.mono _ _
   | exact thresherlaw16_Heavy.mono _ _ _
   | exact thresherlaw16_wakes.mono _
   | exact thresherref15_EntBytes.mono _ _ _ _ _ _
   | exact thresherref15_Entry.mono _ _ _ _ _ _
   | exact thresherref15_TakeEnt.mono _ _
   | exact LeO.none _
   | refine LeO.ite ?_ ?_
   | refine LeO.bind ?_ (fun _ => ?_)
theorem thresherlaw16_kind.mono : ∀ a0 a1 a2 k, LeO (thresherlaw16_kind.f k a0 a1 a2) (thresherlaw16_kind.f (k + 1) a0 a1 a2) := by
 intro a0 a1 a2 k
 obtain ⟨ih0, ih1, ih2, ih3, ih4, ih5, ih6⟩ := thresherlaw16_kind.mono_l k
 unfold thresherlaw16_kind.f
 repeat' first
   | (with_reducible exact ih0 _ _ _ _)
   | (with_reducible exact ih1 _ _ _ _ _)
   | (with_reducible exact ih2 _ _ _ _ _ _ _ _ _)
   | (with_reducible exact ih3 _ _ _ _ _ _ _ _ _ _)
   | (with_reducible exact ih4 _ _ _ _ _ _ _ _ _)
   | (with_reducible exact ih5 _ _ _ _ _ _ _ _)
   | (with_reducible exact ih6 _ _ _ _ _ _ _)
   | (with_reducible exact ent_Bytes.mono _ _ _ _ _ _)
   | (with_reducible exact ent_Take.mono _ _)
   | (with_reducible exact thresherlaw16_Heavy.mono _ _ _)
   | (with_reducible exact thresherlaw16_wakes.mono _)
   | (with_reducible exact thresherref15_EntBytes.mono _ _ _ _ _ _)
   | (with_reducible exact thresherref15_Entry.mono _ _ _ _ _ _)
   | (with_reducible exact thresherref15_TakeEnt.mono _ _)
   | (with_reducible exact LeO.refl _)
   | (with_reducible exact LeO.none _)
   | (with_reducible refine LeO.ite ?_ ?_)
   | (with_reducible refine LeO.bind ?_ (fun _ => ?_))
   | exact ih0 _ _ _ _
   | exact ih1 _ _ _ _ _
   | exact ih2 _ _ _ _ _ _ _ _ _
   | exact ih3 _ _ _ _ _ _ _ _ _ _
   | exact ih4 _ _ _ _ _ _ _ _ _
   | exact ih5 _ _ _ _ _ _ _ _
   | exact ih6 _ _ _ _ _ _ _
   | exact ent_Bytes.mono _ _ _ _ _ _
   | exact ent_Take.mono _ _
   | exact thresherlaw16_Heavy.mono _ _ _
   | exact thresherlaw16_wakes.mono _
   | exact thresherref15_EntBytes.mono _ _ _ _ _ _
   | exact thresherref15_Entry.mono _ _ _ _ _ _
   | exact thresherref15_TakeEnt.mono _ _
   | exact LeO.none _
   | refine LeO.ite ?_ ?_
   | refine LeO.bind ?_ (fun _ => ?_)
def thresherlaw16_kind.T6 : Bool × List (List Nat × List Nat) := (true, [([], []), ([], []), ([1], [1]), ([], []), ([2, 3], [2, 3]), ([4], [4]), ([5], [5]), ([], []), ([7], [7]), ([], []), ([8, 9], [8, 9]), ([10], [10]), ([11], [11]), ([0, 6, 12], [0, 6, 12]), ([], []), ([14, 13, 0, 1, 2, 3, 4, 5, 6, 7, 8, 9, 10, 11, 12, 13, 14], [13, 14])])
def thresherlaw16_kind.B6 : List Nat := [0, 0, 2, 0, 14, 30, 62, 0, 128, 0, 896, 1920, 3968, 8191, 0, 32767]
theorem thresherlaw16_kind.tab6 : rtab .any (opsOf Try.f32 6) = thresherlaw16_kind.T6 := by kernel_rfl
theorem thresherlaw16_kind.bits6 : waitsOk thresherlaw16_kind.T6.2 thresherlaw16_kind.B6 = true := by kernel_rfl
set_option maxHeartbeats 8000000 in
set_option maxRecDepth 100000 in
theorem thresherlaw16_kind.calls (k : Nat) (A0_0 : Option Addr) (c0_0 : Nat) (l0_0 : List (S26)) (a0_1 : ByteArray) (a1 : Int) (r : Bool) (w : World) (hr0_0 : Kd.C k26 w A0_0 l0_0.length l0_0) (hc0_0 : l0_0.length ≤ c0_0) (h : thresherlaw16_kind.f k l0_0 a0_1 a1 = some r) :
  Calls Try.prog 32 #[.agg #[.slice A0_0 l0_0.length c0_0, .string a0_1], .int .i64 a1] w fun e w' => e = .returned (.bool r) ∧ Below w.heap.size w w' := by
 have hu24 := Try.underlying24
 have hu26 := Try.underlying26
 have HR0_0 := Aside0.mk hr0_0
 have HC0_0 := Aside0.mk hc0_0
 clear hr0_0 hc0_0
 have HB := Aside0.mk (Below.refl w.heap.size w)
 have H : ((thresherlaw16_Heavy.f k l0_0 a0_1).bind fun t347 => (if t347 = true then (some true) else (thresherlaw16_kind.l0 k a1 0 l0_0 a0_1))) = some r := h
 clear h
 replace H := Option.bind_eq_some_iff.mp H
 obtain ⟨t347, A30, H⟩ := H
 replace H : (if t347 = true then (some true) else (thresherlaw16_kind.l0 k a1 0 l0_0 a0_1)) = some r := H
 have A3 := Aside0.mk A30
 clear A30
 by_cases c4 : t347 = true
 ·
  subst c4
  have H1 : (some true) = some r := by rw [if_pos rfl] at H; exact H
  clear H
  have H := H1
  clear H1
  obtain rfl := Option.some.inj H
  go_enter Try.func32, Try.ntmps32
  go_wp2_with (first | ((with_reducible refine gate_dst (N := 2) rfl ?_); refine box_event ?hg (N := 2) ?hd (cs := #[.slice A0_0 l0_0.length c0_0, .string a0_1]) (t := 24) ?hr ?_; (case hd => rfl); (case hg => rfl); (case hr => first | (go_simp; done) | (go_simp; rfl)); intro gb346 hg w5 hbox hb; have n0_ := Aside0.mk (below_step (by repeat (first | (with_reducible first | exact HB.out | apply below_alloc | apply pw_below_drewN | apply below_drew1) | exact HB.out)) hb); have n1_ := Aside0.mk (hbox); have n2_ := Aside0.mk ((by rw [hg]; exact (below_size (by repeat (first | (with_reducible first | exact HB.out | apply below_alloc | apply pw_below_drewN | apply below_drew1) | exact HB.out))) : w.heap.size ≤ gb346)); have n3_ := Aside0.mk ((by rw [hg]; exact (below_size (by repeat (first | (with_reducible first | exact HB.out | apply below_alloc | apply pw_below_drewN | apply below_drew1) | exact HB.out))) : w.heap.size ≤ gb346)); clear HB; have HB := n0_; have BK346 := n1_; have GW346 := n2_; have GE346 := n3_; clear n0_ n1_ n2_ n3_; clear hb hbox hg; obtain ⟨hcz6_0, hcz6_1⟩ := cells2 BK346.out; have hfz6_0 := fun i_ => blk_frozen BK346.out i_) | ((with_reducible refine gate_callee (f := 26) rfl ?_); refine goesL_ (some 16) rfl rfl Try.func26 (by kernel_rfl) rfl #[.agg #[.slice A0_0 l0_0.length c0_0, .string a0_1]] rfl (by (try simp only [List.map_toArray, List.map_cons, List.map_nil]); first | done | rfl | (simp only [List.length_drop, List.length_take]; rfl)) ?_; (with_reducible refine (thresherlaw16_Heavy.calls k _ _ l0_0 a0_1 true _ ?side1 ?side2 A3.out).mono ?_); (case side1 => repeat (first | exact (Kd.C_below HR0_0.out HB.out) | (with_reducible refine Kd.C_alloc ?_ _) | (with_reducible refine Kd.C_drewN ?_ _) | (with_reducible refine Kd.C_drew ?_))); (case side2 => exact HC0_0.out); rintro e w7 ⟨rfl, hb⟩; refine ⟨_, rfl, ?_⟩; have n0_ := Aside0.mk (blk_below (g := gb346) (o := .cells #[.slice A0_0 l0_0.length c0_0, .string a0_1] 24 (0, 0)) (by (with_reducible repeat (first | refine blk_drewN ?_ _ | refine blk_drew ?_ | refine blk_alloc ?_ _)); exact BK346.out) hb); have n1_ := Aside0.mk (below_step (by repeat (first | (with_reducible first | exact HB.out | apply below_alloc | apply pw_below_drewN | apply below_drew1 | refine below_set ?_ GE346.out) | exact HB.out)) hb); clear BK346; clear HB; have BK346 := n0_; have HB := n1_; clear n0_ n1_; (try clear hb); (try clear hb2); (try clear hk); (try clear hi)))
  go_ret
  exact ⟨by first | rfl | (simp [errW_none, errW_some] <;> rfl) | (simp [*, errW_none, errW_some] <;> rfl), by repeat (first | (with_reducible first | exact HB.out | apply below_alloc | apply pw_below_drewN | apply below_drew1 | refine below_set ?_ GE346.out) | exact HB.out)⟩
 ·
  replace c4 := Bool.eq_false_iff.mpr c4
  subst c4
  have H1 : (thresherlaw16_kind.l0 k a1 0 l0_0 a0_1) = some r := by rw [if_neg (show ¬ (false = true) by decide)] at H; exact H
  clear H
  have H := H1
  clear H1
  have H' := Aside0.mk H
  clear H
  go_enter Try.func32, Try.ntmps32
  go_wp2_with (first | ((with_reducible refine gate_dst (N := 2) rfl ?_); refine box_event ?hg (N := 2) ?hd (cs := #[.slice A0_0 l0_0.length c0_0, .string a0_1]) (t := 24) ?hr ?_; (case hd => rfl); (case hg => rfl); (case hr => first | (go_simp; done) | (go_simp; rfl)); intro gb346 hg w8 hbox hb; have n0_ := Aside0.mk (below_step (by repeat (first | (with_reducible first | exact HB.out | apply below_alloc | apply pw_below_drewN | apply below_drew1) | exact HB.out)) hb); have n1_ := Aside0.mk (hbox); have n2_ := Aside0.mk ((by rw [hg]; exact (below_size (by repeat (first | (with_reducible first | exact HB.out | apply below_alloc | apply pw_below_drewN | apply below_drew1) | exact HB.out))) : w.heap.size ≤ gb346)); have n3_ := Aside0.mk ((by rw [hg]; exact (below_size (by repeat (first | (with_reducible first | exact HB.out | apply below_alloc | apply pw_below_drewN | apply below_drew1) | exact HB.out))) : w.heap.size ≤ gb346)); clear HB; have HB := n0_; have BK346 := n1_; have GW346 := n2_; have GE346 := n3_; clear n0_ n1_ n2_ n3_; clear hb hbox hg; obtain ⟨hcz9_0, hcz9_1⟩ := cells2 BK346.out; have hfz9_0 := fun i_ => blk_frozen BK346.out i_) | ((with_reducible refine gate_callee (f := 26) rfl ?_); refine goesL_ (some 16) rfl rfl Try.func26 (by kernel_rfl) rfl #[.agg #[.slice A0_0 l0_0.length c0_0, .string a0_1]] rfl (by (try simp only [List.map_toArray, List.map_cons, List.map_nil]); first | done | rfl | (simp only [List.length_drop, List.length_take]; rfl)) ?_; (with_reducible refine (thresherlaw16_Heavy.calls k _ _ l0_0 a0_1 false _ ?side1 ?side2 A3.out).mono ?_); (case side1 => repeat (first | exact (Kd.C_below HR0_0.out HB.out) | (with_reducible refine Kd.C_alloc ?_ _) | (with_reducible refine Kd.C_drewN ?_ _) | (with_reducible refine Kd.C_drew ?_))); (case side2 => exact HC0_0.out); rintro e w10 ⟨rfl, hb⟩; refine ⟨_, rfl, ?_⟩; have n0_ := Aside0.mk (blk_below (g := gb346) (o := .cells #[.slice A0_0 l0_0.length c0_0, .string a0_1] 24 (0, 0)) (by (with_reducible repeat (first | refine blk_drewN ?_ _ | refine blk_drew ?_ | refine blk_alloc ?_ _)); exact BK346.out) hb); have n1_ := Aside0.mk (below_step (by repeat (first | (with_reducible first | exact HB.out | apply below_alloc | apply pw_below_drewN | apply below_drew1 | refine below_set ?_ GE346.out) | exact HB.out)) hb); clear BK346; clear HB; have BK346 := n0_; have HB := n1_; clear n0_ n1_; (try clear hb); (try clear hb2); (try clear hk); (try clear hi)))
  go_loopg [5] k (fun kq v5 w' => ∃ (x5_1 : Int), v5 = .int .i64 x5_1 ∧ Aside0 (thresherlaw16_kind.l0 kq a1 x5_1 l0_0 a0_1 = some r) ∧ Aside0 (kq ≤ k) ∧ Aside0 (w'.heap[gb346]? = some (.cells #[(.slice A0_0 l0_0.length c0_0), .string a0_1] 24 (0, 0))) ∧ Aside0 (Below w.heap.size w w'))
  case atStart => exact ⟨(0), (by first | rfl | (simp; done) | (simp [*]; done)), H', ⟨Nat.le_refl _⟩, ⟨by (with_reducible repeat (first | refine blk_drewN ?_ _ | refine blk_drew ?_ | refine blk_alloc ?_ _)); exact BK346.out⟩, ⟨by repeat (first | (with_reducible first | exact HB.out | apply below_alloc | apply pw_below_drewN | apply below_drew1 | refine below_set ?_ GE346.out) | exact HB.out)⟩⟩
  case round =>
   clear H'
   (try clear c2); (try clear p2); (try clear c3); (try clear c4); (try clear hcz6_0); (try clear hcz6_1); (try clear hcz9_0); (try clear hcz9_1); (try clear hfz6_0); (try clear hfz9_0)
   obtain ⟨x5_1, rfl, HA, HK1, BK346, HB⟩ := hrel
   cases gk with
   | zero => exact absurd HA.out (by simp [thresherlaw16_kind.l0])
   | succ k1 =>
    have H := HA.out
    clear HA
    simp only [thresherlaw16_kind.l0] at H
    have HC11 := Aside0.mk H
    clear H
    go_upto_region 4 with (fail)
    go_cut [25] (fun v25 wc => ∃ (kq : Nat) (x25_10 : Bool), v25 = .bool x25_10 ∧ Aside0 (thresherlaw16_kind.j1 kq a1 x5_1 x25_10 l0_0 a0_1 = some r) ∧ Aside0 (kq ≤ k1) ∧ Aside0 (wc.heap[gb346]? = some (.cells #[(.slice A0_0 l0_0.length c0_0), .string a0_1] 24 (0, 0))) ∧ Aside0 (Below w.heap.size w wc))
    case first =>
     have H := HC11.out
     clear HC11
     by_cases c12 : x5_1 < (l0_0.length : Int)
     ·
      rw [if_pos c12] at H
      have c12b0 : decide (x5_1 < (l0_0.length : Int)) = true := decide_eq_true c12
      clear c12
      (first | rw [c12b0] | (simp only [i64_w, i32_w]; rw [c12b0]) | skip)
      have H' := Aside0.mk H
      clear H
      obtain ⟨hcz13_0, hcz13_1⟩ := cells2 BK346.out
      have hfz13_0 := fun i_ => blk_frozen BK346.out i_
      go_wp2
      go_meet
      case rel => exact ⟨_, (decide (x5_1 < 12)), (by first | rfl | (simp; done) | (simp [*]; done)), H', ⟨by have := HK1.out; first | omega | exact Nat.le_refl _⟩, ⟨by (with_reducible repeat (first | refine blk_drewN ?_ _ | refine blk_drew ?_ | refine blk_alloc ?_ _)); exact BK346.out⟩, ⟨by repeat (first | (with_reducible first | exact HB.out | apply below_alloc | apply pw_below_drewN | apply below_drew1 | refine below_set ?_ GE346.out) | exact HB.out)⟩⟩
     ·
      rw [if_neg c12] at H
      have c12b0 : decide (x5_1 < (l0_0.length : Int)) = false := decide_eq_false c12
      clear c12
      (first | rw [c12b0] | (simp only [i64_w, i32_w]; rw [c12b0]) | skip)
      have H' := Aside0.mk H
      clear H
      obtain ⟨hcz14_0, hcz14_1⟩ := cells2 BK346.out
      have hfz14_0 := fun i_ => blk_frozen BK346.out i_
      go_wp2
      go_meet
      case rel => exact ⟨_, (false), (by first | rfl | (simp; done) | (simp [*]; done)), H', ⟨by have := HK1.out; first | omega | exact Nat.le_refl _⟩, ⟨by (with_reducible repeat (first | refine blk_drewN ?_ _ | refine blk_drew ?_ | refine blk_alloc ?_ _)); exact BK346.out⟩, ⟨by repeat (first | (with_reducible first | exact HB.out | apply below_alloc | apply pw_below_drewN | apply below_drew1 | refine below_set ?_ GE346.out) | exact HB.out)⟩⟩
    case rest =>
     clear HC11
     (try clear c1); (try clear c2); (try clear p2); (try clear c3); (try clear c4); (try clear c12); (try clear c12b0); (try clear hcz13_0); (try clear hcz13_1); (try clear hcz14_0); (try clear hcz14_1); (try clear hcz6_0); (try clear hcz6_1); (try clear hcz9_0); (try clear hcz9_1); (try clear hfz13_0); (try clear hfz14_0); (try clear hfz6_0); (try clear hfz9_0); (try clear p2)
     obtain ⟨kq, x25_10, rfl, HA, HJ10, BK346, HB⟩ := hcut
     cases kq with
     | zero => exact absurd HA.out (by simp [thresherlaw16_kind.j1])
     | succ kj10 =>
      have H := HA.out
      clear HA
      simp only [thresherlaw16_kind.j1] at H
      by_cases c15 : x25_10 = true
      ·
       subst c15
       have H1 : (if 0 ≤ x5_1 then (if x5_1 < (l0_0.length : Int) then (if a1 = 2 then (thresherlaw16_kind.j2 kj10 a1 x5_1 l0_0 a0_1 a1 ((rd_T26 l0_0 x5_1).f1) ((rd_T26 l0_0 x5_1).f2) 0 ((rd_T26 l0_0 x5_1).f4)) else (if a1 = 3 then (thresherlaw16_kind.j2 kj10 a1 x5_1 l0_0 a0_1 a1 ((rd_T26 l0_0 x5_1).f1) 0 ((rd_T26 l0_0 x5_1).f3) ((rd_T26 l0_0 x5_1).f4)) else (if a1 = 5 then (thresherlaw16_kind.j2 kj10 a1 x5_1 l0_0 a0_1 a1 ((rd_T26 l0_0 x5_1).f1) 0 ((rd_T26 l0_0 x5_1).f3) ((rd_T26 l0_0 x5_1).f4)) else (thresherlaw16_kind.j2 kj10 a1 x5_1 l0_0 a0_1 a1 ((rd_T26 l0_0 x5_1).f1) 0 0 ((rd_T26 l0_0 x5_1).f4))))) else (none)) else (none)) = some r := by rw [if_pos rfl] at H; exact H
       clear H
       have H := H1
       clear H1
       by_cases c16 : 0 ≤ x5_1
       ·
        rw [if_pos c16] at H
        have c16b0 : decide (0 ≤ x5_1) = true := decide_eq_true c16
        clear c16
        by_cases c17 : x5_1 < (l0_0.length : Int)
        ·
         rw [if_pos c17] at H
         have c17b0 : decide (x5_1 < (l0_0.length : Int)) = true := decide_eq_true c17
         clear c17
         have HC18 := Aside0.mk H
         clear H
         try go_wp2
         have n0_ := Aside0.mk (blk_drew BK346.out)
         have n1_ := Aside0.mk (below_drew1 HB.out)
         clear BK346
         clear HB
         have BK346 := n0_
         have HB := n1_
         clear n0_ n1_
         have p349 : 0 ≤ (x5_1 : Int) := of_decide_eq_true (by first | (with_reducible assumption) | assumption)
         have q349 : x5_1 < (l0_0.length : Int) := of_decide_eq_true (by first | (with_reducible assumption) | assumption)
         obtain ⟨ad349, e349, hx349_0, hx349_1, hx349_2, hx349_3, hx349_4⟩ := at_T26 HR0_0.out x5_1 p349 q349
         have hw349_4 := hx349_4
         have hw349_3 := hx349_3
         have hw349_2 := hx349_2
         have hw349_1 := hx349_1
         have hw349_0 := hx349_0
         cases e349
         replace hx349_0 := (HB.out.cell (World.block_lt_of_cell? w _ hx349_0)).trans hx349_0
         replace hx349_1 := (HB.out.cell (World.block_lt_of_cell? w _ hx349_1)).trans hx349_1
         replace hx349_2 := (HB.out.cell (World.block_lt_of_cell? w _ hx349_2)).trans hx349_2
         replace hx349_3 := (HB.out.cell (World.block_lt_of_cell? w _ hx349_3)).trans hx349_3
         replace hx349_4 := (HB.out.cell (World.block_lt_of_cell? w _ hx349_4)).trans hx349_4
         replace p349 := eq_true p349
         replace q349 := eq_true q349
         have p350 : 0 ≤ (x5_1 : Int) := of_decide_eq_true (by first | (with_reducible assumption) | assumption)
         have q350 : x5_1 < (l0_0.length : Int) := of_decide_eq_true (by first | (with_reducible assumption) | assumption)
         obtain ⟨ad350, e350, hx350_0, hx350_1, hx350_2, hx350_3, hx350_4⟩ := at_T26 HR0_0.out x5_1 p350 q350
         have hw350_4 := hx350_4
         have hw350_3 := hx350_3
         have hw350_2 := hx350_2
         have hw350_1 := hx350_1
         have hw350_0 := hx350_0
         obtain rfl : ad349 = ad350 := (by injection e350)
         replace hx350_0 := (HB.out.cell (World.block_lt_of_cell? w _ hx350_0)).trans hx350_0
         replace hx350_1 := (HB.out.cell (World.block_lt_of_cell? w _ hx350_1)).trans hx350_1
         replace hx350_2 := (HB.out.cell (World.block_lt_of_cell? w _ hx350_2)).trans hx350_2
         replace hx350_3 := (HB.out.cell (World.block_lt_of_cell? w _ hx350_3)).trans hx350_3
         replace hx350_4 := (HB.out.cell (World.block_lt_of_cell? w _ hx350_4)).trans hx350_4
         replace p350 := eq_true p350
         replace q350 := eq_true q350
         refine start_ (n := 16) (S := fun w' => w'.cell? ⟨gb346, 0, none⟩ = some (.slice (some ad349) l0_0.length c0_0) ∧ w'.cell? ⟨gb346, 1, none⟩ = some (.string a0_1) ∧ w'.cell? (ad349.add ((x5_1).toNat * 5)) = some (.int .i64 ((rd_T26 l0_0 x5_1).f0)) ∧ w'.cell? ⟨(ad349.add ((x5_1).toNat * 5)).block, (ad349.add ((x5_1).toNat * 5)).off + 1, none⟩ = some (.int .i64 ((rd_T26 l0_0 x5_1).f1)) ∧ w'.cell? ⟨(ad349.add ((x5_1).toNat * 5)).block, (ad349.add ((x5_1).toNat * 5)).off + 2, none⟩ = some (.int .i64 ((rd_T26 l0_0 x5_1).f2)) ∧ w'.cell? ⟨(ad349.add ((x5_1).toNat * 5)).block, (ad349.add ((x5_1).toNat * 5)).off + 3, none⟩ = some (.int .i64 ((rd_T26 l0_0 x5_1).f3)) ∧ w'.cell? ⟨(ad349.add ((x5_1).toNat * 5)).block, (ad349.add ((x5_1).toNat * 5)).off + 4, none⟩ = some (.string ((rd_T26 l0_0 x5_1).f4)) ∧ w'.cell? (ad349.add ((x5_1).toNat * 5)) = some (.int .i64 ((rd_T26 l0_0 x5_1).f0)) ∧ w'.cell? ⟨(ad349.add ((x5_1).toNat * 5)).block, (ad349.add ((x5_1).toNat * 5)).off + 1, none⟩ = some (.int .i64 ((rd_T26 l0_0 x5_1).f1)) ∧ w'.cell? ⟨(ad349.add ((x5_1).toNat * 5)).block, (ad349.add ((x5_1).toNat * 5)).off + 2, none⟩ = some (.int .i64 ((rd_T26 l0_0 x5_1).f2)) ∧ w'.cell? ⟨(ad349.add ((x5_1).toNat * 5)).block, (ad349.add ((x5_1).toNat * 5)).off + 3, none⟩ = some (.int .i64 ((rd_T26 l0_0 x5_1).f3)) ∧ w'.cell? ⟨(ad349.add ((x5_1).toNat * 5)).block, (ad349.add ((x5_1).toNat * 5)).off + 4, none⟩ = some (.string ((rd_T26 l0_0 x5_1).f4))) (ds := []) #[false, false, false, false, false, false, false, false, false, false, false, false, false, false, false, false] (by kernel_rfl) rfl rfl ⟨(blk_cell BK346.out 0).trans rfl, (blk_cell BK346.out 1).trans rfl, ((HB.out.cell (World.block_lt_of_cell? w _ hw349_0)).trans hw349_0), ((HB.out.cell (World.block_lt_of_cell? w _ hw349_1)).trans hw349_1), ((HB.out.cell (World.block_lt_of_cell? w _ hw349_2)).trans hw349_2), ((HB.out.cell (World.block_lt_of_cell? w _ hw349_3)).trans hw349_3), ((HB.out.cell (World.block_lt_of_cell? w _ hw349_4)).trans hw349_4), ((HB.out.cell (World.block_lt_of_cell? w _ hw350_0)).trans hw350_0), ((HB.out.cell (World.block_lt_of_cell? w _ hw350_1)).trans hw350_1), ((HB.out.cell (World.block_lt_of_cell? w _ hw350_2)).trans hw350_2), ((HB.out.cell (World.block_lt_of_cell? w _ hw350_3)).trans hw350_3), ((HB.out.cell (World.block_lt_of_cell? w _ hw350_4)).trans hw350_4)⟩ (fun hHeld => ?_); refine with_tabW thresherlaw16_kind.tab6 thresherlaw16_kind.bits6 (fun HT_ HW_ => ?_)
         generalize wc.drew = w19 at BK346 HB hx349_0 hx349_1 hx349_2 hx349_3 hx349_4 hx350_0 hx350_1 hx350_2 hx350_3 hx350_4 hHeld ⊢
         refine pure_ (i := 0) (N := some 28) (v := ?_) (a' := ?_) #[true, false, false, false, false, false, false, false, false, false, false, false, false, false, false, false] rfl rfl (any_of HT_.out (by kernel_rfl)) (fun _ _ _ h => h) (Or.inl ⟨by rfl, ?_⟩) ?_ ?_
         rotate_left
         ·
          intro w'
          go_simp
          with_reducible rfl
         rotate_left
         ·
          simp only [Act.put, List.setIfInBounds_toArray, List.set_cons_zero, List.set_cons_succ, i64_w, i32_w]
          rfl
         refine pure_ (i := 1) (N := some 29) (v := ?_) (a' := ?_) #[true, true, false, false, false, false, false, false, false, false, false, false, false, false, false, false] rfl rfl (any_of HT_.out (by kernel_rfl)) (fun _ _ _ h => h) (Or.inl ⟨by rfl, ?_⟩) ?_ ?_
         rotate_left
         ·
          intro w'
          go_simp
          with_reducible rfl
         rotate_left
         ·
          simp only [Act.put, List.setIfInBounds_toArray, List.set_cons_zero, List.set_cons_succ, i64_w, i32_w]
          rfl
         refine pure_ (i := 3) (N := some 31) (v := ?_) (a' := ?_) #[true, true, false, true, false, false, false, false, false, false, false, false, false, false, false, false] rfl rfl (any_of HT_.out (by kernel_rfl)) (fun _ _ _ h => h) (Or.inl ⟨by rfl, ?_⟩) ?_ ?_
         rotate_left
         ·
          intro w'
          go_simp
          with_reducible rfl
         rotate_left
         ·
          simp only [Act.put, List.setIfInBounds_toArray, List.set_cons_zero, List.set_cons_succ, i64_w, i32_w]
          rfl
         refine pure_ (i := 7) (N := some 35) (v := ?_) (a' := ?_) #[true, true, false, true, false, false, false, true, false, false, false, false, false, false, false, false] rfl rfl (any_of HT_.out (by kernel_rfl)) (fun _ _ _ h => h) (Or.inl ⟨by rfl, ?_⟩) ?_ ?_
         rotate_left
         ·
          intro w'
          go_simp
          with_reducible rfl
         rotate_left
         ·
          simp only [Act.put, List.setIfInBounds_toArray, List.set_cons_zero, List.set_cons_succ, i64_w, i32_w]
          rfl
         refine pure_ (i := 9) (N := some 37) (v := ?_) (a' := ?_) #[true, true, false, true, false, false, false, true, false, true, false, false, false, false, false, false] rfl rfl (any_of HT_.out (by kernel_rfl)) (fun _ _ _ h => h) (Or.inl ⟨by rfl, ?_⟩) ?_ ?_
         rotate_left
         ·
          intro w'
          go_simp
          with_reducible rfl
         rotate_left
         ·
          simp only [Act.put, List.setIfInBounds_toArray, List.set_cons_zero, List.set_cons_succ, i64_w, i32_w]
          rfl
         refine take_ (i := 2) (N := some 30) (v := ?_) (a' := ?_) #[true, true, true, true, false, false, false, true, false, true, false, false, false, false, false, false] rfl rfl (take_ofW HT_.out HW_.out (by kernel_rfl)) (fun _ _ _ h => h) (Or.inl ⟨by rfl, ?_⟩) hHeld ?_ ?_
         rotate_left
         ·
          rintro w' ⟨s0, s1, s2, s3, s4, s5, s6, s7, s8, s9, s10, s11⟩
          go_simp
          with_reducible rfl
         rotate_left
         ·
          simp only [Act.put, List.setIfInBounds_toArray, List.set_cons_zero, List.set_cons_succ, i64_w, i32_w]
          rfl
         refine pure_ (i := 4) (N := some 32) (v := ?_) (a' := ?_) #[true, true, true, true, true, false, false, true, false, true, false, false, false, false, false, false] rfl rfl (any_of HT_.out (by kernel_rfl)) (fun _ _ _ h => h) (Or.inl ⟨by rfl, ?_⟩) ?_ ?_
         rotate_left
         ·
          intro w'
          go_simp
          with_reducible rfl
         rotate_left
         ·
          simp only [Act.put, List.setIfInBounds_toArray, List.set_cons_zero, List.set_cons_succ, i64_w, i32_w]
          rfl
         refine pure_ (i := 5) (N := some 33) (v := ?_) (a' := ?_) #[true, true, true, true, true, true, false, true, false, true, false, false, false, false, false, false] rfl rfl (any_of HT_.out (by kernel_rfl)) (fun _ _ _ h => h) (Or.inl ⟨by rfl, ?_⟩) ?_ ?_
         rotate_left
         ·
          intro w'
          go_simp
          with_reducible rfl
         rotate_left
         ·
          simp only [Act.put, List.setIfInBounds_toArray, List.set_cons_zero, List.set_cons_succ, i64_w, i32_w]
          rfl
         refine take_ (i := 6) (N := some 34) (v := ?_) (a' := ?_) #[true, true, true, true, true, true, true, true, false, true, false, false, false, false, false, false] rfl rfl (take_ofW HT_.out HW_.out (by kernel_rfl)) (fun _ _ _ h => h) (Or.inl ⟨by rfl, ?_⟩) hHeld ?_ ?_
         rotate_left
         ·
          rintro w' ⟨s0, s1, s2, s3, s4, s5, s6, s7, s8, s9, s10, s11⟩
          go_simp
          with_reducible rfl
         rotate_left
         ·
          simp only [Act.put, List.setIfInBounds_toArray, List.set_cons_zero, List.set_cons_succ, i64_w, i32_w]
          rfl
         refine take_ (i := 8) (N := some 36) (v := ?_) (a' := ?_) #[true, true, true, true, true, true, true, true, true, true, false, false, false, false, false, false] rfl rfl (take_ofW HT_.out HW_.out (by kernel_rfl)) (fun _ _ _ h => h) (Or.inl ⟨by rfl, ?_⟩) hHeld ?_ ?_
         rotate_left
         ·
          rintro w' ⟨s0, s1, s2, s3, s4, s5, s6, s7, s8, s9, s10, s11⟩
          go_simp
          with_reducible rfl
         rotate_left
         ·
          simp only [Act.put, List.setIfInBounds_toArray, List.set_cons_zero, List.set_cons_succ, i64_w, i32_w]
          rfl
         refine pure_ (i := 10) (N := some 38) (v := ?_) (a' := ?_) #[true, true, true, true, true, true, true, true, true, true, true, false, false, false, false, false] rfl rfl (any_of HT_.out (by kernel_rfl)) (fun _ _ _ h => h) (Or.inl ⟨by rfl, ?_⟩) ?_ ?_
         rotate_left
         ·
          intro w'
          go_simp
          with_reducible rfl
         rotate_left
         ·
          simp only [Act.put, List.setIfInBounds_toArray, List.set_cons_zero, List.set_cons_succ, i64_w, i32_w]
          rfl
         refine pure_ (i := 11) (N := some 39) (v := ?_) (a' := ?_) #[true, true, true, true, true, true, true, true, true, true, true, true, false, false, false, false] rfl rfl (any_of HT_.out (by kernel_rfl)) (fun _ _ _ h => h) (Or.inl ⟨by rfl, ?_⟩) ?_ ?_
         rotate_left
         ·
          intro w'
          go_simp
          with_reducible rfl
         rotate_left
         ·
          simp only [Act.put, List.setIfInBounds_toArray, List.set_cons_zero, List.set_cons_succ, i64_w, i32_w]
          rfl
         refine take_ (i := 12) (N := some 40) (v := ?_) (a' := ?_) #[true, true, true, true, true, true, true, true, true, true, true, true, true, false, false, false] rfl rfl (take_ofW HT_.out HW_.out (by kernel_rfl)) (fun _ _ _ h => h) (Or.inl ⟨by rfl, ?_⟩) hHeld ?_ ?_
         rotate_left
         ·
          rintro w' ⟨s0, s1, s2, s3, s4, s5, s6, s7, s8, s9, s10, s11⟩
          go_simp
          with_reducible rfl
         rotate_left
         ·
          simp only [Act.put, List.setIfInBounds_toArray, List.set_cons_zero, List.set_cons_succ, i64_w, i32_w]
          rfl
         refine pure_ (i := 13) (N := some 41) (v := ?_) (a' := ?_) #[true, true, true, true, true, true, true, true, true, true, true, true, true, true, false, false] rfl rfl (any_of HT_.out (by kernel_rfl)) (fun _ _ _ h => h) (Or.inl ⟨by rfl, ?_⟩) ?_ ?_
         rotate_left
         ·
          intro w'
          go_simp
          with_reducible rfl
         rotate_left
         ·
          simp only [Act.put, List.setIfInBounds_toArray, List.set_cons_zero, List.set_cons_succ, i64_w, i32_w]
          rfl
         refine one_ (i := 14) (N := some 6) #[true, true, true, true, true, true, true, true, true, true, true, true, true, true, true, false] rfl rfl (one_of HT_.out (by kernel_rfl)) (by decide) (fun K hK => ?_)
         refine box_step ?hg (N := 6) ?hd (cs := #[.int .i64 0, .int .i64 0, .int .i64 0, .int .i64 0, .string (⟨#[]⟩ : ByteArray)]) (t := 26) ?hr ?_; (case hd => rfl); (case hg => rfl); (case hr => first | (go_simp; done) | (go_simp; rfl))
         intro gb351 hg w20 hbox hb
         have n0_ := Aside0.mk (blk_below (g := gb346) (o := .cells #[.slice (some ad349) l0_0.length c0_0, .string a0_1] 24 (0, 0)) (by (with_reducible repeat (first | refine blk_drewN ?_ _ | refine blk_drew ?_ | refine blk_alloc ?_ _)); exact BK346.out) hb)
         have n1_ := Aside0.mk (below_step (by repeat (first | (with_reducible first | exact HB.out | apply below_alloc | apply pw_below_drewN | apply below_drew1 | refine below_set ?_ GE346.out) | exact HB.out)) hb)
         have n2_ := Aside0.mk (hbox)
         have n3_ := Aside0.mk ((by rw [hg]; exact (below_size (by repeat (first | (with_reducible first | exact HB.out | apply below_alloc | apply pw_below_drewN | apply below_drew1 | refine below_set ?_ GE346.out) | exact HB.out))) : w.heap.size ≤ gb351))
         have n4_ := Aside0.mk ((by rw [hg]; exact (below_size (by repeat (first | (with_reducible first | exact HB.out | apply below_alloc | apply pw_below_drewN | apply below_drew1 | refine below_set ?_ GE346.out) | exact HB.out))) : w.heap.size ≤ gb351))
         have n5_ := Aside0.mk ((by rw [hg]; exact Nat.ne_of_lt (blk_lt (g := gb346) (o := .cells #[.slice (some ad349) l0_0.length c0_0, .string a0_1] 24 (0, 0)) (by (with_reducible repeat (first | refine blk_drewN ?_ _ | refine blk_drew ?_ | refine blk_alloc ?_ _)); exact BK346.out)) : gb346 ≠ gb351))
         have n6_ := Aside0.mk ((by rw [hg]; exact Nat.ne_of_gt (blk_lt (g := gb346) (o := .cells #[.slice (some ad349) l0_0.length c0_0, .string a0_1] 24 (0, 0)) (by (with_reducible repeat (first | refine blk_drewN ?_ _ | refine blk_drew ?_ | refine blk_alloc ?_ _)); exact BK346.out)) : gb351 ≠ gb346))
         clear BK346
         clear HB
         have BK346 := n0_
         have HB := n1_
         have BK351 := n2_
         have GW351 := n3_
         have GE351 := n4_
         have NB346_351 := n5_
         have NB351_346 := n6_
         clear n0_ n1_ n2_ n3_ n4_ n5_ n6_
         clear hb hbox hg
         refine hK.out _ _ ⟨(blk_cell BK346.out 0).trans rfl, (blk_cell BK346.out 1).trans rfl, ((HB.out.cell (World.block_lt_of_cell? w _ hw349_0)).trans hw349_0), ((HB.out.cell (World.block_lt_of_cell? w _ hw349_1)).trans hw349_1), ((HB.out.cell (World.block_lt_of_cell? w _ hw349_2)).trans hw349_2), ((HB.out.cell (World.block_lt_of_cell? w _ hw349_3)).trans hw349_3), ((HB.out.cell (World.block_lt_of_cell? w _ hw349_4)).trans hw349_4), ((HB.out.cell (World.block_lt_of_cell? w _ hw350_0)).trans hw350_0), ((HB.out.cell (World.block_lt_of_cell? w _ hw350_1)).trans hw350_1), ((HB.out.cell (World.block_lt_of_cell? w _ hw350_2)).trans hw350_2), ((HB.out.cell (World.block_lt_of_cell? w _ hw350_3)).trans hw350_3), ((HB.out.cell (World.block_lt_of_cell? w _ hw350_4)).trans hw350_4)⟩ (fun hHeld => ?_)
         clear hK K
         refine norm_ (a' := ?_) ?_ ?_
         rotate_left
         ·
          show Act.put _ (some 6) _ = _
          simp only [Act.put, List.setIfInBounds_toArray, List.set_cons_zero, List.set_cons_succ, i64_w, i32_w]
          rfl
         refine one_ (i := 15) (N := none) #[true, true, true, true, true, true, true, true, true, true, true, true, true, true, true, true] rfl rfl (one_of HT_.out (by kernel_rfl)) (by decide) (fun K hK => ?_)
         have hs21 : w20.cell? ⟨gb351, 0, none⟩ = some (.int .i64 0) := (blk_cell BK351.out 0).trans rfl
         have hfs21 := blk_frozen BK351.out 0
         have hns21_0 := NB346_351.out
         have hms21_0 := NB351_346.out
         have hs22 : w20.cell? ⟨gb351, 1, none⟩ = some (.int .i64 0) := (blk_cell BK351.out 1).trans rfl
         have hfs22 := blk_frozen BK351.out 1
         have hns22_0 := NB346_351.out
         have hms22_0 := NB351_346.out
         have hs23 : w20.cell? ⟨gb351, 2, none⟩ = some (.int .i64 0) := (blk_cell BK351.out 2).trans rfl
         have hfs23 := blk_frozen BK351.out 2
         have hns23_0 := NB346_351.out
         have hms23_0 := NB351_346.out
         have hs24 : w20.cell? ⟨gb351, 3, none⟩ = some (.int .i64 0) := (blk_cell BK351.out 3).trans rfl
         have hfs24 := blk_frozen BK351.out 3
         have hns24_0 := NB346_351.out
         have hms24_0 := NB351_346.out
         have hs25 : w20.cell? ⟨gb351, 4, none⟩ = some (.string (⟨#[]⟩ : ByteArray)) := (blk_cell BK351.out 4).trans rfl
         have hfs25 := blk_frozen BK351.out 4
         have hns25_0 := NB346_351.out
         have hms25_0 := NB351_346.out
         refine skip_ (w1 := ?_) (by rfl) rfl ?_ ?_
         rotate_left
         ·
          go_simp
          rfl
         refine hK.out _ _ ⟨((cell_far (p := ⟨gb351, _, none⟩) NB346_351.out _).trans (((cell_far (p := ⟨gb351, _, none⟩) NB346_351.out _).trans (((cell_far (p := ⟨gb351, _, none⟩) NB346_351.out _).trans (((cell_far (p := ⟨gb351, _, none⟩) NB346_351.out _).trans (((cell_far (p := ⟨gb351, _, none⟩) NB346_351.out _).trans (hHeld.1)))))))))), ((cell_far (p := ⟨gb351, _, none⟩) NB346_351.out _).trans (((cell_far (p := ⟨gb351, _, none⟩) NB346_351.out _).trans (((cell_far (p := ⟨gb351, _, none⟩) NB346_351.out _).trans (((cell_far (p := ⟨gb351, _, none⟩) NB346_351.out _).trans (((cell_far (p := ⟨gb351, _, none⟩) NB346_351.out _).trans (hHeld.2.1)))))))))), ((cell_far (p := ⟨gb351, _, none⟩) (by first | exact Nat.ne_of_lt (Nat.lt_of_lt_of_le (by have := World.block_lt_of_cell? _ _ hw349_0; first | rwa [add_block] at this | exact this) GW351.out) | (rw [add_block]; exact Nat.ne_of_lt (Nat.lt_of_lt_of_le (by have := World.block_lt_of_cell? _ _ hw349_0; first | rwa [add_block] at this | exact this) GW351.out)) | (show (Addr.add _ _).block ≠ _; rw [add_block]; exact Nat.ne_of_lt (Nat.lt_of_lt_of_le (by have := World.block_lt_of_cell? _ _ hw349_0; first | rwa [add_block] at this | exact this) GW351.out)) | (dsimp only; exact Nat.ne_of_lt (Nat.lt_of_lt_of_le (by have := World.block_lt_of_cell? _ _ hw349_0; first | rwa [add_block] at this | exact this) GW351.out))) _).trans (((cell_far (p := ⟨gb351, _, none⟩) (by first | exact Nat.ne_of_lt (Nat.lt_of_lt_of_le (by have := World.block_lt_of_cell? _ _ hw349_0; first | rwa [add_block] at this | exact this) GW351.out) | (rw [add_block]; exact Nat.ne_of_lt (Nat.lt_of_lt_of_le (by have := World.block_lt_of_cell? _ _ hw349_0; first | rwa [add_block] at this | exact this) GW351.out)) | (show (Addr.add _ _).block ≠ _; rw [add_block]; exact Nat.ne_of_lt (Nat.lt_of_lt_of_le (by have := World.block_lt_of_cell? _ _ hw349_0; first | rwa [add_block] at this | exact this) GW351.out)) | (dsimp only; exact Nat.ne_of_lt (Nat.lt_of_lt_of_le (by have := World.block_lt_of_cell? _ _ hw349_0; first | rwa [add_block] at this | exact this) GW351.out))) _).trans (((cell_far (p := ⟨gb351, _, none⟩) (by first | exact Nat.ne_of_lt (Nat.lt_of_lt_of_le (by have := World.block_lt_of_cell? _ _ hw349_0; first | rwa [add_block] at this | exact this) GW351.out) | (rw [add_block]; exact Nat.ne_of_lt (Nat.lt_of_lt_of_le (by have := World.block_lt_of_cell? _ _ hw349_0; first | rwa [add_block] at this | exact this) GW351.out)) | (show (Addr.add _ _).block ≠ _; rw [add_block]; exact Nat.ne_of_lt (Nat.lt_of_lt_of_le (by have := World.block_lt_of_cell? _ _ hw349_0; first | rwa [add_block] at this | exact this) GW351.out)) | (dsimp only; exact Nat.ne_of_lt (Nat.lt_of_lt_of_le (by have := World.block_lt_of_cell? _ _ hw349_0; first | rwa [add_block] at this | exact this) GW351.out))) _).trans (((cell_far (p := ⟨gb351, _, none⟩) (by first | exact Nat.ne_of_lt (Nat.lt_of_lt_of_le (by have := World.block_lt_of_cell? _ _ hw349_0; first | rwa [add_block] at this | exact this) GW351.out) | (rw [add_block]; exact Nat.ne_of_lt (Nat.lt_of_lt_of_le (by have := World.block_lt_of_cell? _ _ hw349_0; first | rwa [add_block] at this | exact this) GW351.out)) | (show (Addr.add _ _).block ≠ _; rw [add_block]; exact Nat.ne_of_lt (Nat.lt_of_lt_of_le (by have := World.block_lt_of_cell? _ _ hw349_0; first | rwa [add_block] at this | exact this) GW351.out)) | (dsimp only; exact Nat.ne_of_lt (Nat.lt_of_lt_of_le (by have := World.block_lt_of_cell? _ _ hw349_0; first | rwa [add_block] at this | exact this) GW351.out))) _).trans (((cell_far (p := ⟨gb351, _, none⟩) (by first | exact Nat.ne_of_lt (Nat.lt_of_lt_of_le (by have := World.block_lt_of_cell? _ _ hw349_0; first | rwa [add_block] at this | exact this) GW351.out) | (rw [add_block]; exact Nat.ne_of_lt (Nat.lt_of_lt_of_le (by have := World.block_lt_of_cell? _ _ hw349_0; first | rwa [add_block] at this | exact this) GW351.out)) | (show (Addr.add _ _).block ≠ _; rw [add_block]; exact Nat.ne_of_lt (Nat.lt_of_lt_of_le (by have := World.block_lt_of_cell? _ _ hw349_0; first | rwa [add_block] at this | exact this) GW351.out)) | (dsimp only; exact Nat.ne_of_lt (Nat.lt_of_lt_of_le (by have := World.block_lt_of_cell? _ _ hw349_0; first | rwa [add_block] at this | exact this) GW351.out))) _).trans (hHeld.2.2.1)))))))))), ((cell_far (p := ⟨gb351, _, none⟩) (by first | exact Nat.ne_of_lt (Nat.lt_of_lt_of_le (by have := World.block_lt_of_cell? _ _ hw349_1; first | rwa [add_block] at this | exact this) GW351.out) | (rw [add_block]; exact Nat.ne_of_lt (Nat.lt_of_lt_of_le (by have := World.block_lt_of_cell? _ _ hw349_1; first | rwa [add_block] at this | exact this) GW351.out)) | (show (Addr.add _ _).block ≠ _; rw [add_block]; exact Nat.ne_of_lt (Nat.lt_of_lt_of_le (by have := World.block_lt_of_cell? _ _ hw349_1; first | rwa [add_block] at this | exact this) GW351.out)) | (dsimp only; exact Nat.ne_of_lt (Nat.lt_of_lt_of_le (by have := World.block_lt_of_cell? _ _ hw349_1; first | rwa [add_block] at this | exact this) GW351.out))) _).trans (((cell_far (p := ⟨gb351, _, none⟩) (by first | exact Nat.ne_of_lt (Nat.lt_of_lt_of_le (by have := World.block_lt_of_cell? _ _ hw349_1; first | rwa [add_block] at this | exact this) GW351.out) | (rw [add_block]; exact Nat.ne_of_lt (Nat.lt_of_lt_of_le (by have := World.block_lt_of_cell? _ _ hw349_1; first | rwa [add_block] at this | exact this) GW351.out)) | (show (Addr.add _ _).block ≠ _; rw [add_block]; exact Nat.ne_of_lt (Nat.lt_of_lt_of_le (by have := World.block_lt_of_cell? _ _ hw349_1; first | rwa [add_block] at this | exact this) GW351.out)) | (dsimp only; exact Nat.ne_of_lt (Nat.lt_of_lt_of_le (by have := World.block_lt_of_cell? _ _ hw349_1; first | rwa [add_block] at this | exact this) GW351.out))) _).trans (((cell_far (p := ⟨gb351, _, none⟩) (by first | exact Nat.ne_of_lt (Nat.lt_of_lt_of_le (by have := World.block_lt_of_cell? _ _ hw349_1; first | rwa [add_block] at this | exact this) GW351.out) | (rw [add_block]; exact Nat.ne_of_lt (Nat.lt_of_lt_of_le (by have := World.block_lt_of_cell? _ _ hw349_1; first | rwa [add_block] at this | exact this) GW351.out)) | (show (Addr.add _ _).block ≠ _; rw [add_block]; exact Nat.ne_of_lt (Nat.lt_of_lt_of_le (by have := World.block_lt_of_cell? _ _ hw349_1; first | rwa [add_block] at this | exact this) GW351.out)) | (dsimp only; exact Nat.ne_of_lt (Nat.lt_of_lt_of_le (by have := World.block_lt_of_cell? _ _ hw349_1; first | rwa [add_block] at this | exact this) GW351.out))) _).trans (((cell_far (p := ⟨gb351, _, none⟩) (by first | exact Nat.ne_of_lt (Nat.lt_of_lt_of_le (by have := World.block_lt_of_cell? _ _ hw349_1; first | rwa [add_block] at this | exact this) GW351.out) | (rw [add_block]; exact Nat.ne_of_lt (Nat.lt_of_lt_of_le (by have := World.block_lt_of_cell? _ _ hw349_1; first | rwa [add_block] at this | exact this) GW351.out)) | (show (Addr.add _ _).block ≠ _; rw [add_block]; exact Nat.ne_of_lt (Nat.lt_of_lt_of_le (by have := World.block_lt_of_cell? _ _ hw349_1; first | rwa [add_block] at this | exact this) GW351.out)) | (dsimp only; exact Nat.ne_of_lt (Nat.lt_of_lt_of_le (by have := World.block_lt_of_cell? _ _ hw349_1; first | rwa [add_block] at this | exact this) GW351.out))) _).trans (((cell_far (p := ⟨gb351, _, none⟩) (by first | exact Nat.ne_of_lt (Nat.lt_of_lt_of_le (by have := World.block_lt_of_cell? _ _ hw349_1; first | rwa [add_block] at this | exact this) GW351.out) | (rw [add_block]; exact Nat.ne_of_lt (Nat.lt_of_lt_of_le (by have := World.block_lt_of_cell? _ _ hw349_1; first | rwa [add_block] at this | exact this) GW351.out)) | (show (Addr.add _ _).block ≠ _; rw [add_block]; exact Nat.ne_of_lt (Nat.lt_of_lt_of_le (by have := World.block_lt_of_cell? _ _ hw349_1; first | rwa [add_block] at this | exact this) GW351.out)) | (dsimp only; exact Nat.ne_of_lt (Nat.lt_of_lt_of_le (by have := World.block_lt_of_cell? _ _ hw349_1; first | rwa [add_block] at this | exact this) GW351.out))) _).trans (hHeld.2.2.2.1)))))))))), ((cell_far (p := ⟨gb351, _, none⟩) (by first | exact Nat.ne_of_lt (Nat.lt_of_lt_of_le (by have := World.block_lt_of_cell? _ _ hw349_2; first | rwa [add_block] at this | exact this) GW351.out) | (rw [add_block]; exact Nat.ne_of_lt (Nat.lt_of_lt_of_le (by have := World.block_lt_of_cell? _ _ hw349_2; first | rwa [add_block] at this | exact this) GW351.out)) | (show (Addr.add _ _).block ≠ _; rw [add_block]; exact Nat.ne_of_lt (Nat.lt_of_lt_of_le (by have := World.block_lt_of_cell? _ _ hw349_2; first | rwa [add_block] at this | exact this) GW351.out)) | (dsimp only; exact Nat.ne_of_lt (Nat.lt_of_lt_of_le (by have := World.block_lt_of_cell? _ _ hw349_2; first | rwa [add_block] at this | exact this) GW351.out))) _).trans (((cell_far (p := ⟨gb351, _, none⟩) (by first | exact Nat.ne_of_lt (Nat.lt_of_lt_of_le (by have := World.block_lt_of_cell? _ _ hw349_2; first | rwa [add_block] at this | exact this) GW351.out) | (rw [add_block]; exact Nat.ne_of_lt (Nat.lt_of_lt_of_le (by have := World.block_lt_of_cell? _ _ hw349_2; first | rwa [add_block] at this | exact this) GW351.out)) | (show (Addr.add _ _).block ≠ _; rw [add_block]; exact Nat.ne_of_lt (Nat.lt_of_lt_of_le (by have := World.block_lt_of_cell? _ _ hw349_2; first | rwa [add_block] at this | exact this) GW351.out)) | (dsimp only; exact Nat.ne_of_lt (Nat.lt_of_lt_of_le (by have := World.block_lt_of_cell? _ _ hw349_2; first | rwa [add_block] at this | exact this) GW351.out))) _).trans (((cell_far (p := ⟨gb351, _, none⟩) (by first | exact Nat.ne_of_lt (Nat.lt_of_lt_of_le (by have := World.block_lt_of_cell? _ _ hw349_2; first | rwa [add_block] at this | exact this) GW351.out) | (rw [add_block]; exact Nat.ne_of_lt (Nat.lt_of_lt_of_le (by have := World.block_lt_of_cell? _ _ hw349_2; first | rwa [add_block] at this | exact this) GW351.out)) | (show (Addr.add _ _).block ≠ _; rw [add_block]; exact Nat.ne_of_lt (Nat.lt_of_lt_of_le (by have := World.block_lt_of_cell? _ _ hw349_2; first | rwa [add_block] at this | exact this) GW351.out)) | (dsimp only; exact Nat.ne_of_lt (Nat.lt_of_lt_of_le (by have := World.block_lt_of_cell? _ _ hw349_2; first | rwa [add_block] at this | exact this) GW351.out))) _).trans (((cell_far (p := ⟨gb351, _, none⟩) (by first | exact Nat.ne_of_lt (Nat.lt_of_lt_of_le (by have := World.block_lt_of_cell? _ _ hw349_2; first | rwa [add_block] at this | exact this) GW351.out) | (rw [add_block]; exact Nat.ne_of_lt (Nat.lt_of_lt_of_le (by have := World.block_lt_of_cell? _ _ hw349_2; first | rwa [add_block] at this | exact this) GW351.out)) | (show (Addr.add _ _).block ≠ _; rw [add_block]; exact Nat.ne_of_lt (Nat.lt_of_lt_of_le (by have := World.block_lt_of_cell? _ _ hw349_2; first | rwa [add_block] at this | exact this) GW351.out)) | (dsimp only; exact Nat.ne_of_lt (Nat.lt_of_lt_of_le (by have := World.block_lt_of_cell? _ _ hw349_2; first | rwa [add_block] at this | exact this) GW351.out))) _).trans (((cell_far (p := ⟨gb351, _, none⟩) (by first | exact Nat.ne_of_lt (Nat.lt_of_lt_of_le (by have := World.block_lt_of_cell? _ _ hw349_2; first | rwa [add_block] at this | exact this) GW351.out) | (rw [add_block]; exact Nat.ne_of_lt (Nat.lt_of_lt_of_le (by have := World.block_lt_of_cell? _ _ hw349_2; first | rwa [add_block] at this | exact this) GW351.out)) | (show (Addr.add _ _).block ≠ _; rw [add_block]; exact Nat.ne_of_lt (Nat.lt_of_lt_of_le (by have := World.block_lt_of_cell? _ _ hw349_2; first | rwa [add_block] at this | exact this) GW351.out)) | (dsimp only; exact Nat.ne_of_lt (Nat.lt_of_lt_of_le (by have := World.block_lt_of_cell? _ _ hw349_2; first | rwa [add_block] at this | exact this) GW351.out))) _).trans (hHeld.2.2.2.2.1)))))))))), ((cell_far (p := ⟨gb351, _, none⟩) (by first | exact Nat.ne_of_lt (Nat.lt_of_lt_of_le (by have := World.block_lt_of_cell? _ _ hw349_3; first | rwa [add_block] at this | exact this) GW351.out) | (rw [add_block]; exact Nat.ne_of_lt (Nat.lt_of_lt_of_le (by have := World.block_lt_of_cell? _ _ hw349_3; first | rwa [add_block] at this | exact this) GW351.out)) | (show (Addr.add _ _).block ≠ _; rw [add_block]; exact Nat.ne_of_lt (Nat.lt_of_lt_of_le (by have := World.block_lt_of_cell? _ _ hw349_3; first | rwa [add_block] at this | exact this) GW351.out)) | (dsimp only; exact Nat.ne_of_lt (Nat.lt_of_lt_of_le (by have := World.block_lt_of_cell? _ _ hw349_3; first | rwa [add_block] at this | exact this) GW351.out))) _).trans (((cell_far (p := ⟨gb351, _, none⟩) (by first | exact Nat.ne_of_lt (Nat.lt_of_lt_of_le (by have := World.block_lt_of_cell? _ _ hw349_3; first | rwa [add_block] at this | exact this) GW351.out) | (rw [add_block]; exact Nat.ne_of_lt (Nat.lt_of_lt_of_le (by have := World.block_lt_of_cell? _ _ hw349_3; first | rwa [add_block] at this | exact this) GW351.out)) | (show (Addr.add _ _).block ≠ _; rw [add_block]; exact Nat.ne_of_lt (Nat.lt_of_lt_of_le (by have := World.block_lt_of_cell? _ _ hw349_3; first | rwa [add_block] at this | exact this) GW351.out)) | (dsimp only; exact Nat.ne_of_lt (Nat.lt_of_lt_of_le (by have := World.block_lt_of_cell? _ _ hw349_3; first | rwa [add_block] at this | exact this) GW351.out))) _).trans (((cell_far (p := ⟨gb351, _, none⟩) (by first | exact Nat.ne_of_lt (Nat.lt_of_lt_of_le (by have := World.block_lt_of_cell? _ _ hw349_3; first | rwa [add_block] at this | exact this) GW351.out) | (rw [add_block]; exact Nat.ne_of_lt (Nat.lt_of_lt_of_le (by have := World.block_lt_of_cell? _ _ hw349_3; first | rwa [add_block] at this | exact this) GW351.out)) | (show (Addr.add _ _).block ≠ _; rw [add_block]; exact Nat.ne_of_lt (Nat.lt_of_lt_of_le (by have := World.block_lt_of_cell? _ _ hw349_3; first | rwa [add_block] at this | exact this) GW351.out)) | (dsimp only; exact Nat.ne_of_lt (Nat.lt_of_lt_of_le (by have := World.block_lt_of_cell? _ _ hw349_3; first | rwa [add_block] at this | exact this) GW351.out))) _).trans (((cell_far (p := ⟨gb351, _, none⟩) (by first | exact Nat.ne_of_lt (Nat.lt_of_lt_of_le (by have := World.block_lt_of_cell? _ _ hw349_3; first | rwa [add_block] at this | exact this) GW351.out) | (rw [add_block]; exact Nat.ne_of_lt (Nat.lt_of_lt_of_le (by have := World.block_lt_of_cell? _ _ hw349_3; first | rwa [add_block] at this | exact this) GW351.out)) | (show (Addr.add _ _).block ≠ _; rw [add_block]; exact Nat.ne_of_lt (Nat.lt_of_lt_of_le (by have := World.block_lt_of_cell? _ _ hw349_3; first | rwa [add_block] at this | exact this) GW351.out)) | (dsimp only; exact Nat.ne_of_lt (Nat.lt_of_lt_of_le (by have := World.block_lt_of_cell? _ _ hw349_3; first | rwa [add_block] at this | exact this) GW351.out))) _).trans (((cell_far (p := ⟨gb351, _, none⟩) (by first | exact Nat.ne_of_lt (Nat.lt_of_lt_of_le (by have := World.block_lt_of_cell? _ _ hw349_3; first | rwa [add_block] at this | exact this) GW351.out) | (rw [add_block]; exact Nat.ne_of_lt (Nat.lt_of_lt_of_le (by have := World.block_lt_of_cell? _ _ hw349_3; first | rwa [add_block] at this | exact this) GW351.out)) | (show (Addr.add _ _).block ≠ _; rw [add_block]; exact Nat.ne_of_lt (Nat.lt_of_lt_of_le (by have := World.block_lt_of_cell? _ _ hw349_3; first | rwa [add_block] at this | exact this) GW351.out)) | (dsimp only; exact Nat.ne_of_lt (Nat.lt_of_lt_of_le (by have := World.block_lt_of_cell? _ _ hw349_3; first | rwa [add_block] at this | exact this) GW351.out))) _).trans (hHeld.2.2.2.2.2.1)))))))))), ((cell_far (p := ⟨gb351, _, none⟩) (by first | exact Nat.ne_of_lt (Nat.lt_of_lt_of_le (by have := World.block_lt_of_cell? _ _ hw349_4; first | rwa [add_block] at this | exact this) GW351.out) | (rw [add_block]; exact Nat.ne_of_lt (Nat.lt_of_lt_of_le (by have := World.block_lt_of_cell? _ _ hw349_4; first | rwa [add_block] at this | exact this) GW351.out)) | (show (Addr.add _ _).block ≠ _; rw [add_block]; exact Nat.ne_of_lt (Nat.lt_of_lt_of_le (by have := World.block_lt_of_cell? _ _ hw349_4; first | rwa [add_block] at this | exact this) GW351.out)) | (dsimp only; exact Nat.ne_of_lt (Nat.lt_of_lt_of_le (by have := World.block_lt_of_cell? _ _ hw349_4; first | rwa [add_block] at this | exact this) GW351.out))) _).trans (((cell_far (p := ⟨gb351, _, none⟩) (by first | exact Nat.ne_of_lt (Nat.lt_of_lt_of_le (by have := World.block_lt_of_cell? _ _ hw349_4; first | rwa [add_block] at this | exact this) GW351.out) | (rw [add_block]; exact Nat.ne_of_lt (Nat.lt_of_lt_of_le (by have := World.block_lt_of_cell? _ _ hw349_4; first | rwa [add_block] at this | exact this) GW351.out)) | (show (Addr.add _ _).block ≠ _; rw [add_block]; exact Nat.ne_of_lt (Nat.lt_of_lt_of_le (by have := World.block_lt_of_cell? _ _ hw349_4; first | rwa [add_block] at this | exact this) GW351.out)) | (dsimp only; exact Nat.ne_of_lt (Nat.lt_of_lt_of_le (by have := World.block_lt_of_cell? _ _ hw349_4; first | rwa [add_block] at this | exact this) GW351.out))) _).trans (((cell_far (p := ⟨gb351, _, none⟩) (by first | exact Nat.ne_of_lt (Nat.lt_of_lt_of_le (by have := World.block_lt_of_cell? _ _ hw349_4; first | rwa [add_block] at this | exact this) GW351.out) | (rw [add_block]; exact Nat.ne_of_lt (Nat.lt_of_lt_of_le (by have := World.block_lt_of_cell? _ _ hw349_4; first | rwa [add_block] at this | exact this) GW351.out)) | (show (Addr.add _ _).block ≠ _; rw [add_block]; exact Nat.ne_of_lt (Nat.lt_of_lt_of_le (by have := World.block_lt_of_cell? _ _ hw349_4; first | rwa [add_block] at this | exact this) GW351.out)) | (dsimp only; exact Nat.ne_of_lt (Nat.lt_of_lt_of_le (by have := World.block_lt_of_cell? _ _ hw349_4; first | rwa [add_block] at this | exact this) GW351.out))) _).trans (((cell_far (p := ⟨gb351, _, none⟩) (by first | exact Nat.ne_of_lt (Nat.lt_of_lt_of_le (by have := World.block_lt_of_cell? _ _ hw349_4; first | rwa [add_block] at this | exact this) GW351.out) | (rw [add_block]; exact Nat.ne_of_lt (Nat.lt_of_lt_of_le (by have := World.block_lt_of_cell? _ _ hw349_4; first | rwa [add_block] at this | exact this) GW351.out)) | (show (Addr.add _ _).block ≠ _; rw [add_block]; exact Nat.ne_of_lt (Nat.lt_of_lt_of_le (by have := World.block_lt_of_cell? _ _ hw349_4; first | rwa [add_block] at this | exact this) GW351.out)) | (dsimp only; exact Nat.ne_of_lt (Nat.lt_of_lt_of_le (by have := World.block_lt_of_cell? _ _ hw349_4; first | rwa [add_block] at this | exact this) GW351.out))) _).trans (((cell_far (p := ⟨gb351, _, none⟩) (by first | exact Nat.ne_of_lt (Nat.lt_of_lt_of_le (by have := World.block_lt_of_cell? _ _ hw349_4; first | rwa [add_block] at this | exact this) GW351.out) | (rw [add_block]; exact Nat.ne_of_lt (Nat.lt_of_lt_of_le (by have := World.block_lt_of_cell? _ _ hw349_4; first | rwa [add_block] at this | exact this) GW351.out)) | (show (Addr.add _ _).block ≠ _; rw [add_block]; exact Nat.ne_of_lt (Nat.lt_of_lt_of_le (by have := World.block_lt_of_cell? _ _ hw349_4; first | rwa [add_block] at this | exact this) GW351.out)) | (dsimp only; exact Nat.ne_of_lt (Nat.lt_of_lt_of_le (by have := World.block_lt_of_cell? _ _ hw349_4; first | rwa [add_block] at this | exact this) GW351.out))) _).trans (hHeld.2.2.2.2.2.2.1)))))))))), ((cell_far (p := ⟨gb351, _, none⟩) (by first | exact Nat.ne_of_lt (Nat.lt_of_lt_of_le (by have := World.block_lt_of_cell? _ _ hw350_0; first | rwa [add_block] at this | exact this) GW351.out) | (rw [add_block]; exact Nat.ne_of_lt (Nat.lt_of_lt_of_le (by have := World.block_lt_of_cell? _ _ hw350_0; first | rwa [add_block] at this | exact this) GW351.out)) | (show (Addr.add _ _).block ≠ _; rw [add_block]; exact Nat.ne_of_lt (Nat.lt_of_lt_of_le (by have := World.block_lt_of_cell? _ _ hw350_0; first | rwa [add_block] at this | exact this) GW351.out)) | (dsimp only; exact Nat.ne_of_lt (Nat.lt_of_lt_of_le (by have := World.block_lt_of_cell? _ _ hw350_0; first | rwa [add_block] at this | exact this) GW351.out))) _).trans (((cell_far (p := ⟨gb351, _, none⟩) (by first | exact Nat.ne_of_lt (Nat.lt_of_lt_of_le (by have := World.block_lt_of_cell? _ _ hw350_0; first | rwa [add_block] at this | exact this) GW351.out) | (rw [add_block]; exact Nat.ne_of_lt (Nat.lt_of_lt_of_le (by have := World.block_lt_of_cell? _ _ hw350_0; first | rwa [add_block] at this | exact this) GW351.out)) | (show (Addr.add _ _).block ≠ _; rw [add_block]; exact Nat.ne_of_lt (Nat.lt_of_lt_of_le (by have := World.block_lt_of_cell? _ _ hw350_0; first | rwa [add_block] at this | exact this) GW351.out)) | (dsimp only; exact Nat.ne_of_lt (Nat.lt_of_lt_of_le (by have := World.block_lt_of_cell? _ _ hw350_0; first | rwa [add_block] at this | exact this) GW351.out))) _).trans (((cell_far (p := ⟨gb351, _, none⟩) (by first | exact Nat.ne_of_lt (Nat.lt_of_lt_of_le (by have := World.block_lt_of_cell? _ _ hw350_0; first | rwa [add_block] at this | exact this) GW351.out) | (rw [add_block]; exact Nat.ne_of_lt (Nat.lt_of_lt_of_le (by have := World.block_lt_of_cell? _ _ hw350_0; first | rwa [add_block] at this | exact this) GW351.out)) | (show (Addr.add _ _).block ≠ _; rw [add_block]; exact Nat.ne_of_lt (Nat.lt_of_lt_of_le (by have := World.block_lt_of_cell? _ _ hw350_0; first | rwa [add_block] at this | exact this) GW351.out)) | (dsimp only; exact Nat.ne_of_lt (Nat.lt_of_lt_of_le (by have := World.block_lt_of_cell? _ _ hw350_0; first | rwa [add_block] at this | exact this) GW351.out))) _).trans (((cell_far (p := ⟨gb351, _, none⟩) (by first | exact Nat.ne_of_lt (Nat.lt_of_lt_of_le (by have := World.block_lt_of_cell? _ _ hw350_0; first | rwa [add_block] at this | exact this) GW351.out) | (rw [add_block]; exact Nat.ne_of_lt (Nat.lt_of_lt_of_le (by have := World.block_lt_of_cell? _ _ hw350_0; first | rwa [add_block] at this | exact this) GW351.out)) | (show (Addr.add _ _).block ≠ _; rw [add_block]; exact Nat.ne_of_lt (Nat.lt_of_lt_of_le (by have := World.block_lt_of_cell? _ _ hw350_0; first | rwa [add_block] at this | exact this) GW351.out)) | (dsimp only; exact Nat.ne_of_lt (Nat.lt_of_lt_of_le (by have := World.block_lt_of_cell? _ _ hw350_0; first | rwa [add_block] at this | exact this) GW351.out))) _).trans (((cell_far (p := ⟨gb351, _, none⟩) (by first | exact Nat.ne_of_lt (Nat.lt_of_lt_of_le (by have := World.block_lt_of_cell? _ _ hw350_0; first | rwa [add_block] at this | exact this) GW351.out) | (rw [add_block]; exact Nat.ne_of_lt (Nat.lt_of_lt_of_le (by have := World.block_lt_of_cell? _ _ hw350_0; first | rwa [add_block] at this | exact this) GW351.out)) | (show (Addr.add _ _).block ≠ _; rw [add_block]; exact Nat.ne_of_lt (Nat.lt_of_lt_of_le (by have := World.block_lt_of_cell? _ _ hw350_0; first | rwa [add_block] at this | exact this) GW351.out)) | (dsimp only; exact Nat.ne_of_lt (Nat.lt_of_lt_of_le (by have := World.block_lt_of_cell? _ _ hw350_0; first | rwa [add_block] at this | exact this) GW351.out))) _).trans (hHeld.2.2.2.2.2.2.2.1)))))))))), ((cell_far (p := ⟨gb351, _, none⟩) (by first | exact Nat.ne_of_lt (Nat.lt_of_lt_of_le (by have := World.block_lt_of_cell? _ _ hw350_1; first | rwa [add_block] at this | exact this) GW351.out) | (rw [add_block]; exact Nat.ne_of_lt (Nat.lt_of_lt_of_le (by have := World.block_lt_of_cell? _ _ hw350_1; first | rwa [add_block] at this | exact this) GW351.out)) | (show (Addr.add _ _).block ≠ _; rw [add_block]; exact Nat.ne_of_lt (Nat.lt_of_lt_of_le (by have := World.block_lt_of_cell? _ _ hw350_1; first | rwa [add_block] at this | exact this) GW351.out)) | (dsimp only; exact Nat.ne_of_lt (Nat.lt_of_lt_of_le (by have := World.block_lt_of_cell? _ _ hw350_1; first | rwa [add_block] at this | exact this) GW351.out))) _).trans (((cell_far (p := ⟨gb351, _, none⟩) (by first | exact Nat.ne_of_lt (Nat.lt_of_lt_of_le (by have := World.block_lt_of_cell? _ _ hw350_1; first | rwa [add_block] at this | exact this) GW351.out) | (rw [add_block]; exact Nat.ne_of_lt (Nat.lt_of_lt_of_le (by have := World.block_lt_of_cell? _ _ hw350_1; first | rwa [add_block] at this | exact this) GW351.out)) | (show (Addr.add _ _).block ≠ _; rw [add_block]; exact Nat.ne_of_lt (Nat.lt_of_lt_of_le (by have := World.block_lt_of_cell? _ _ hw350_1; first | rwa [add_block] at this | exact this) GW351.out)) | (dsimp only; exact Nat.ne_of_lt (Nat.lt_of_lt_of_le (by have := World.block_lt_of_cell? _ _ hw350_1; first | rwa [add_block] at this | exact this) GW351.out))) _).trans (((cell_far (p := ⟨gb351, _, none⟩) (by first | exact Nat.ne_of_lt (Nat.lt_of_lt_of_le (by have := World.block_lt_of_cell? _ _ hw350_1; first | rwa [add_block] at this | exact this) GW351.out) | (rw [add_block]; exact Nat.ne_of_lt (Nat.lt_of_lt_of_le (by have := World.block_lt_of_cell? _ _ hw350_1; first | rwa [add_block] at this | exact this) GW351.out)) | (show (Addr.add _ _).block ≠ _; rw [add_block]; exact Nat.ne_of_lt (Nat.lt_of_lt_of_le (by have := World.block_lt_of_cell? _ _ hw350_1; first | rwa [add_block] at this | exact this) GW351.out)) | (dsimp only; exact Nat.ne_of_lt (Nat.lt_of_lt_of_le (by have := World.block_lt_of_cell? _ _ hw350_1; first | rwa [add_block] at this | exact this) GW351.out))) _).trans (((cell_far (p := ⟨gb351, _, none⟩) (by first | exact Nat.ne_of_lt (Nat.lt_of_lt_of_le (by have := World.block_lt_of_cell? _ _ hw350_1; first | rwa [add_block] at this | exact this) GW351.out) | (rw [add_block]; exact Nat.ne_of_lt (Nat.lt_of_lt_of_le (by have := World.block_lt_of_cell? _ _ hw350_1; first | rwa [add_block] at this | exact this) GW351.out)) | (show (Addr.add _ _).block ≠ _; rw [add_block]; exact Nat.ne_of_lt (Nat.lt_of_lt_of_le (by have := World.block_lt_of_cell? _ _ hw350_1; first | rwa [add_block] at this | exact this) GW351.out)) | (dsimp only; exact Nat.ne_of_lt (Nat.lt_of_lt_of_le (by have := World.block_lt_of_cell? _ _ hw350_1; first | rwa [add_block] at this | exact this) GW351.out))) _).trans (((cell_far (p := ⟨gb351, _, none⟩) (by first | exact Nat.ne_of_lt (Nat.lt_of_lt_of_le (by have := World.block_lt_of_cell? _ _ hw350_1; first | rwa [add_block] at this | exact this) GW351.out) | (rw [add_block]; exact Nat.ne_of_lt (Nat.lt_of_lt_of_le (by have := World.block_lt_of_cell? _ _ hw350_1; first | rwa [add_block] at this | exact this) GW351.out)) | (show (Addr.add _ _).block ≠ _; rw [add_block]; exact Nat.ne_of_lt (Nat.lt_of_lt_of_le (by have := World.block_lt_of_cell? _ _ hw350_1; first | rwa [add_block] at this | exact this) GW351.out)) | (dsimp only; exact Nat.ne_of_lt (Nat.lt_of_lt_of_le (by have := World.block_lt_of_cell? _ _ hw350_1; first | rwa [add_block] at this | exact this) GW351.out))) _).trans (hHeld.2.2.2.2.2.2.2.2.1)))))))))), ((cell_far (p := ⟨gb351, _, none⟩) (by first | exact Nat.ne_of_lt (Nat.lt_of_lt_of_le (by have := World.block_lt_of_cell? _ _ hw350_2; first | rwa [add_block] at this | exact this) GW351.out) | (rw [add_block]; exact Nat.ne_of_lt (Nat.lt_of_lt_of_le (by have := World.block_lt_of_cell? _ _ hw350_2; first | rwa [add_block] at this | exact this) GW351.out)) | (show (Addr.add _ _).block ≠ _; rw [add_block]; exact Nat.ne_of_lt (Nat.lt_of_lt_of_le (by have := World.block_lt_of_cell? _ _ hw350_2; first | rwa [add_block] at this | exact this) GW351.out)) | (dsimp only; exact Nat.ne_of_lt (Nat.lt_of_lt_of_le (by have := World.block_lt_of_cell? _ _ hw350_2; first | rwa [add_block] at this | exact this) GW351.out))) _).trans (((cell_far (p := ⟨gb351, _, none⟩) (by first | exact Nat.ne_of_lt (Nat.lt_of_lt_of_le (by have := World.block_lt_of_cell? _ _ hw350_2; first | rwa [add_block] at this | exact this) GW351.out) | (rw [add_block]; exact Nat.ne_of_lt (Nat.lt_of_lt_of_le (by have := World.block_lt_of_cell? _ _ hw350_2; first | rwa [add_block] at this | exact this) GW351.out)) | (show (Addr.add _ _).block ≠ _; rw [add_block]; exact Nat.ne_of_lt (Nat.lt_of_lt_of_le (by have := World.block_lt_of_cell? _ _ hw350_2; first | rwa [add_block] at this | exact this) GW351.out)) | (dsimp only; exact Nat.ne_of_lt (Nat.lt_of_lt_of_le (by have := World.block_lt_of_cell? _ _ hw350_2; first | rwa [add_block] at this | exact this) GW351.out))) _).trans (((cell_far (p := ⟨gb351, _, none⟩) (by first | exact Nat.ne_of_lt (Nat.lt_of_lt_of_le (by have := World.block_lt_of_cell? _ _ hw350_2; first | rwa [add_block] at this | exact this) GW351.out) | (rw [add_block]; exact Nat.ne_of_lt (Nat.lt_of_lt_of_le (by have := World.block_lt_of_cell? _ _ hw350_2; first | rwa [add_block] at this | exact this) GW351.out)) | (show (Addr.add _ _).block ≠ _; rw [add_block]; exact Nat.ne_of_lt (Nat.lt_of_lt_of_le (by have := World.block_lt_of_cell? _ _ hw350_2; first | rwa [add_block] at this | exact this) GW351.out)) | (dsimp only; exact Nat.ne_of_lt (Nat.lt_of_lt_of_le (by have := World.block_lt_of_cell? _ _ hw350_2; first | rwa [add_block] at this | exact this) GW351.out))) _).trans (((cell_far (p := ⟨gb351, _, none⟩) (by first | exact Nat.ne_of_lt (Nat.lt_of_lt_of_le (by have := World.block_lt_of_cell? _ _ hw350_2; first | rwa [add_block] at this | exact this) GW351.out) | (rw [add_block]; exact Nat.ne_of_lt (Nat.lt_of_lt_of_le (by have := World.block_lt_of_cell? _ _ hw350_2; first | rwa [add_block] at this | exact this) GW351.out)) | (show (Addr.add _ _).block ≠ _; rw [add_block]; exact Nat.ne_of_lt (Nat.lt_of_lt_of_le (by have := World.block_lt_of_cell? _ _ hw350_2; first | rwa [add_block] at this | exact this) GW351.out)) | (dsimp only; exact Nat.ne_of_lt (Nat.lt_of_lt_of_le (by have := World.block_lt_of_cell? _ _ hw350_2; first | rwa [add_block] at this | exact this) GW351.out))) _).trans (((cell_far (p := ⟨gb351, _, none⟩) (by first | exact Nat.ne_of_lt (Nat.lt_of_lt_of_le (by have := World.block_lt_of_cell? _ _ hw350_2; first | rwa [add_block] at this | exact this) GW351.out) | (rw [add_block]; exact Nat.ne_of_lt (Nat.lt_of_lt_of_le (by have := World.block_lt_of_cell? _ _ hw350_2; first | rwa [add_block] at this | exact this) GW351.out)) | (show (Addr.add _ _).block ≠ _; rw [add_block]; exact Nat.ne_of_lt (Nat.lt_of_lt_of_le (by have := World.block_lt_of_cell? _ _ hw350_2; first | rwa [add_block] at this | exact this) GW351.out)) | (dsimp only; exact Nat.ne_of_lt (Nat.lt_of_lt_of_le (by have := World.block_lt_of_cell? _ _ hw350_2; first | rwa [add_block] at this | exact this) GW351.out))) _).trans (hHeld.2.2.2.2.2.2.2.2.2.1)))))))))), ((cell_far (p := ⟨gb351, _, none⟩) (by first | exact Nat.ne_of_lt (Nat.lt_of_lt_of_le (by have := World.block_lt_of_cell? _ _ hw350_3; first | rwa [add_block] at this | exact this) GW351.out) | (rw [add_block]; exact Nat.ne_of_lt (Nat.lt_of_lt_of_le (by have := World.block_lt_of_cell? _ _ hw350_3; first | rwa [add_block] at this | exact this) GW351.out)) | (show (Addr.add _ _).block ≠ _; rw [add_block]; exact Nat.ne_of_lt (Nat.lt_of_lt_of_le (by have := World.block_lt_of_cell? _ _ hw350_3; first | rwa [add_block] at this | exact this) GW351.out)) | (dsimp only; exact Nat.ne_of_lt (Nat.lt_of_lt_of_le (by have := World.block_lt_of_cell? _ _ hw350_3; first | rwa [add_block] at this | exact this) GW351.out))) _).trans (((cell_far (p := ⟨gb351, _, none⟩) (by first | exact Nat.ne_of_lt (Nat.lt_of_lt_of_le (by have := World.block_lt_of_cell? _ _ hw350_3; first | rwa [add_block] at this | exact this) GW351.out) | (rw [add_block]; exact Nat.ne_of_lt (Nat.lt_of_lt_of_le (by have := World.block_lt_of_cell? _ _ hw350_3; first | rwa [add_block] at this | exact this) GW351.out)) | (show (Addr.add _ _).block ≠ _; rw [add_block]; exact Nat.ne_of_lt (Nat.lt_of_lt_of_le (by have := World.block_lt_of_cell? _ _ hw350_3; first | rwa [add_block] at this | exact this) GW351.out)) | (dsimp only; exact Nat.ne_of_lt (Nat.lt_of_lt_of_le (by have := World.block_lt_of_cell? _ _ hw350_3; first | rwa [add_block] at this | exact this) GW351.out))) _).trans (((cell_far (p := ⟨gb351, _, none⟩) (by first | exact Nat.ne_of_lt (Nat.lt_of_lt_of_le (by have := World.block_lt_of_cell? _ _ hw350_3; first | rwa [add_block] at this | exact this) GW351.out) | (rw [add_block]; exact Nat.ne_of_lt (Nat.lt_of_lt_of_le (by have := World.block_lt_of_cell? _ _ hw350_3; first | rwa [add_block] at this | exact this) GW351.out)) | (show (Addr.add _ _).block ≠ _; rw [add_block]; exact Nat.ne_of_lt (Nat.lt_of_lt_of_le (by have := World.block_lt_of_cell? _ _ hw350_3; first | rwa [add_block] at this | exact this) GW351.out)) | (dsimp only; exact Nat.ne_of_lt (Nat.lt_of_lt_of_le (by have := World.block_lt_of_cell? _ _ hw350_3; first | rwa [add_block] at this | exact this) GW351.out))) _).trans (((cell_far (p := ⟨gb351, _, none⟩) (by first | exact Nat.ne_of_lt (Nat.lt_of_lt_of_le (by have := World.block_lt_of_cell? _ _ hw350_3; first | rwa [add_block] at this | exact this) GW351.out) | (rw [add_block]; exact Nat.ne_of_lt (Nat.lt_of_lt_of_le (by have := World.block_lt_of_cell? _ _ hw350_3; first | rwa [add_block] at this | exact this) GW351.out)) | (show (Addr.add _ _).block ≠ _; rw [add_block]; exact Nat.ne_of_lt (Nat.lt_of_lt_of_le (by have := World.block_lt_of_cell? _ _ hw350_3; first | rwa [add_block] at this | exact this) GW351.out)) | (dsimp only; exact Nat.ne_of_lt (Nat.lt_of_lt_of_le (by have := World.block_lt_of_cell? _ _ hw350_3; first | rwa [add_block] at this | exact this) GW351.out))) _).trans (((cell_far (p := ⟨gb351, _, none⟩) (by first | exact Nat.ne_of_lt (Nat.lt_of_lt_of_le (by have := World.block_lt_of_cell? _ _ hw350_3; first | rwa [add_block] at this | exact this) GW351.out) | (rw [add_block]; exact Nat.ne_of_lt (Nat.lt_of_lt_of_le (by have := World.block_lt_of_cell? _ _ hw350_3; first | rwa [add_block] at this | exact this) GW351.out)) | (show (Addr.add _ _).block ≠ _; rw [add_block]; exact Nat.ne_of_lt (Nat.lt_of_lt_of_le (by have := World.block_lt_of_cell? _ _ hw350_3; first | rwa [add_block] at this | exact this) GW351.out)) | (dsimp only; exact Nat.ne_of_lt (Nat.lt_of_lt_of_le (by have := World.block_lt_of_cell? _ _ hw350_3; first | rwa [add_block] at this | exact this) GW351.out))) _).trans (hHeld.2.2.2.2.2.2.2.2.2.2.1)))))))))), ((cell_far (p := ⟨gb351, _, none⟩) (by first | exact Nat.ne_of_lt (Nat.lt_of_lt_of_le (by have := World.block_lt_of_cell? _ _ hw350_4; first | rwa [add_block] at this | exact this) GW351.out) | (rw [add_block]; exact Nat.ne_of_lt (Nat.lt_of_lt_of_le (by have := World.block_lt_of_cell? _ _ hw350_4; first | rwa [add_block] at this | exact this) GW351.out)) | (show (Addr.add _ _).block ≠ _; rw [add_block]; exact Nat.ne_of_lt (Nat.lt_of_lt_of_le (by have := World.block_lt_of_cell? _ _ hw350_4; first | rwa [add_block] at this | exact this) GW351.out)) | (dsimp only; exact Nat.ne_of_lt (Nat.lt_of_lt_of_le (by have := World.block_lt_of_cell? _ _ hw350_4; first | rwa [add_block] at this | exact this) GW351.out))) _).trans (((cell_far (p := ⟨gb351, _, none⟩) (by first | exact Nat.ne_of_lt (Nat.lt_of_lt_of_le (by have := World.block_lt_of_cell? _ _ hw350_4; first | rwa [add_block] at this | exact this) GW351.out) | (rw [add_block]; exact Nat.ne_of_lt (Nat.lt_of_lt_of_le (by have := World.block_lt_of_cell? _ _ hw350_4; first | rwa [add_block] at this | exact this) GW351.out)) | (show (Addr.add _ _).block ≠ _; rw [add_block]; exact Nat.ne_of_lt (Nat.lt_of_lt_of_le (by have := World.block_lt_of_cell? _ _ hw350_4; first | rwa [add_block] at this | exact this) GW351.out)) | (dsimp only; exact Nat.ne_of_lt (Nat.lt_of_lt_of_le (by have := World.block_lt_of_cell? _ _ hw350_4; first | rwa [add_block] at this | exact this) GW351.out))) _).trans (((cell_far (p := ⟨gb351, _, none⟩) (by first | exact Nat.ne_of_lt (Nat.lt_of_lt_of_le (by have := World.block_lt_of_cell? _ _ hw350_4; first | rwa [add_block] at this | exact this) GW351.out) | (rw [add_block]; exact Nat.ne_of_lt (Nat.lt_of_lt_of_le (by have := World.block_lt_of_cell? _ _ hw350_4; first | rwa [add_block] at this | exact this) GW351.out)) | (show (Addr.add _ _).block ≠ _; rw [add_block]; exact Nat.ne_of_lt (Nat.lt_of_lt_of_le (by have := World.block_lt_of_cell? _ _ hw350_4; first | rwa [add_block] at this | exact this) GW351.out)) | (dsimp only; exact Nat.ne_of_lt (Nat.lt_of_lt_of_le (by have := World.block_lt_of_cell? _ _ hw350_4; first | rwa [add_block] at this | exact this) GW351.out))) _).trans (((cell_far (p := ⟨gb351, _, none⟩) (by first | exact Nat.ne_of_lt (Nat.lt_of_lt_of_le (by have := World.block_lt_of_cell? _ _ hw350_4; first | rwa [add_block] at this | exact this) GW351.out) | (rw [add_block]; exact Nat.ne_of_lt (Nat.lt_of_lt_of_le (by have := World.block_lt_of_cell? _ _ hw350_4; first | rwa [add_block] at this | exact this) GW351.out)) | (show (Addr.add _ _).block ≠ _; rw [add_block]; exact Nat.ne_of_lt (Nat.lt_of_lt_of_le (by have := World.block_lt_of_cell? _ _ hw350_4; first | rwa [add_block] at this | exact this) GW351.out)) | (dsimp only; exact Nat.ne_of_lt (Nat.lt_of_lt_of_le (by have := World.block_lt_of_cell? _ _ hw350_4; first | rwa [add_block] at this | exact this) GW351.out))) _).trans (((cell_far (p := ⟨gb351, _, none⟩) (by first | exact Nat.ne_of_lt (Nat.lt_of_lt_of_le (by have := World.block_lt_of_cell? _ _ hw350_4; first | rwa [add_block] at this | exact this) GW351.out) | (rw [add_block]; exact Nat.ne_of_lt (Nat.lt_of_lt_of_le (by have := World.block_lt_of_cell? _ _ hw350_4; first | rwa [add_block] at this | exact this) GW351.out)) | (show (Addr.add _ _).block ≠ _; rw [add_block]; exact Nat.ne_of_lt (Nat.lt_of_lt_of_le (by have := World.block_lt_of_cell? _ _ hw350_4; first | rwa [add_block] at this | exact this) GW351.out)) | (dsimp only; exact Nat.ne_of_lt (Nat.lt_of_lt_of_le (by have := World.block_lt_of_cell? _ _ hw350_4; first | rwa [add_block] at this | exact this) GW351.out))) _).trans (hHeld.2.2.2.2.2.2.2.2.2.2.2))))))))))⟩ (fun hHeld => ?_)
         clear hK K
         refine done_ (done_of HT_.out (by kernel_rfl)) ?_
         go_upto_block 2 with (fail)
         go_cut [] (fun wc => ∃ (kq : Nat) (x352002_17 : Int) (x352003_17 : Int), Aside0 (thresherlaw16_kind.j2 kq a1 x5_1 l0_0 a0_1 a1 ((rd_T26 l0_0 x5_1).f1) x352002_17 x352003_17 ((rd_T26 l0_0 x5_1).f4) = some r) ∧ Aside0 (kq ≤ kj10) ∧ Aside0 (wc.heap[gb346]? = some (.cells #[(.slice (some ad349) l0_0.length c0_0), .string a0_1] 24 (0, 0))) ∧ Aside0 (wc.heap[gb351]? = some (.cells #[.int .i64 a1, .int .i64 ((rd_T26 l0_0 x5_1).f1), .int .i64 x352002_17, .int .i64 x352003_17, .string ((rd_T26 l0_0 x5_1).f4)] 26 (0, 0))) ∧ Aside0 (Below w.heap.size w wc))
         case first =>
          have H := HC18.out
          clear HC18
          by_cases c26 : a1 = 2
          ·
           rw [if_pos c26] at H
           have c26b0 : (a1 == 2) = true := beq_iff_eq.mpr c26
           have c26b1 : (a1 != 2) = false := bne_eq_false_iff_eq.mpr c26
           clear c26
           (first | rw [c26b0] | (simp only [i64_w, i32_w]; rw [c26b0]) | skip)
           have H' := Aside0.mk H
           clear H
           have hnb27 := NB346_351.out
           have hnc27 := NB351_346.out
           obtain ⟨hcz28_0, hcz28_1⟩ := cells2 BK346.out
           have hfz28_0 := fun i_ => blk_frozen BK346.out i_
           have p352 : 0 ≤ (x5_1 : Int) := of_decide_eq_true (by first | (with_reducible assumption) | assumption)
           have q352 : x5_1 < (l0_0.length : Int) := of_decide_eq_true (by first | (with_reducible assumption) | assumption)
           obtain ⟨ad352, e352, hx352_0, hx352_1, hx352_2, hx352_3, hx352_4⟩ := at_T26 HR0_0.out x5_1 p352 q352
           obtain rfl : ad349 = ad352 := (by injection e352)
           have hn352_0 : ad349.block ≠ gb351 := Nat.ne_of_lt (Nat.lt_of_lt_of_le (by have := World.block_lt_of_cell? _ _ hx352_0; first | rwa [add_block] at this | exact this) GW351.out)
           have hn352_1 : ad349.block ≠ gb351 := Nat.ne_of_lt (Nat.lt_of_lt_of_le (by have := World.block_lt_of_cell? _ _ hx352_0; first | rwa [add_block] at this | exact this) GW351.out)
           have hn352_2 : ad349.block ≠ gb351 := Nat.ne_of_lt (Nat.lt_of_lt_of_le (by have := World.block_lt_of_cell? _ _ hx352_0; first | rwa [add_block] at this | exact this) GW351.out)
           have hn352_3 : ad349.block ≠ gb351 := Nat.ne_of_lt (Nat.lt_of_lt_of_le (by have := World.block_lt_of_cell? _ _ hx352_0; first | rwa [add_block] at this | exact this) GW351.out)
           have hn352_4 : ad349.block ≠ gb351 := Nat.ne_of_lt (Nat.lt_of_lt_of_le (by have := World.block_lt_of_cell? _ _ hx352_0; first | rwa [add_block] at this | exact this) GW351.out)
           replace hx352_0 := (HB.out.cell (World.block_lt_of_cell? w _ hx352_0)).trans hx352_0
           replace hx352_1 := (HB.out.cell (World.block_lt_of_cell? w _ hx352_1)).trans hx352_1
           replace hx352_2 := (HB.out.cell (World.block_lt_of_cell? w _ hx352_2)).trans hx352_2
           replace hx352_3 := (HB.out.cell (World.block_lt_of_cell? w _ hx352_3)).trans hx352_3
           replace hx352_4 := (HB.out.cell (World.block_lt_of_cell? w _ hx352_4)).trans hx352_4
           replace hx352_0 := (cell_far (p := ⟨gb351, 0, none⟩) (by first | (rw [add_block]; exact hn352_0) | (show (Addr.add _ _).block ≠ _; rw [add_block]; exact hn352_0) | exact hn352_0) (.int .i64 a1)).trans hx352_0
           replace hx352_1 := (cell_far (p := ⟨gb351, 0, none⟩) (by first | (rw [add_block]; exact hn352_0) | (show (Addr.add _ _).block ≠ _; rw [add_block]; exact hn352_0) | exact hn352_0) (.int .i64 a1)).trans hx352_1
           replace hx352_2 := (cell_far (p := ⟨gb351, 0, none⟩) (by first | (rw [add_block]; exact hn352_0) | (show (Addr.add _ _).block ≠ _; rw [add_block]; exact hn352_0) | exact hn352_0) (.int .i64 a1)).trans hx352_2
           replace hx352_3 := (cell_far (p := ⟨gb351, 0, none⟩) (by first | (rw [add_block]; exact hn352_0) | (show (Addr.add _ _).block ≠ _; rw [add_block]; exact hn352_0) | exact hn352_0) (.int .i64 a1)).trans hx352_3
           replace hx352_4 := (cell_far (p := ⟨gb351, 0, none⟩) (by first | (rw [add_block]; exact hn352_0) | (show (Addr.add _ _).block ≠ _; rw [add_block]; exact hn352_0) | exact hn352_0) (.int .i64 a1)).trans hx352_4
           replace hx352_0 := (cell_far (p := ⟨gb351, 1, none⟩) (by first | (rw [add_block]; exact hn352_1) | (show (Addr.add _ _).block ≠ _; rw [add_block]; exact hn352_1) | exact hn352_1) (.int .i64 ((rd_T26 l0_0 x5_1).f1))).trans hx352_0
           replace hx352_1 := (cell_far (p := ⟨gb351, 1, none⟩) (by first | (rw [add_block]; exact hn352_1) | (show (Addr.add _ _).block ≠ _; rw [add_block]; exact hn352_1) | exact hn352_1) (.int .i64 ((rd_T26 l0_0 x5_1).f1))).trans hx352_1
           replace hx352_2 := (cell_far (p := ⟨gb351, 1, none⟩) (by first | (rw [add_block]; exact hn352_1) | (show (Addr.add _ _).block ≠ _; rw [add_block]; exact hn352_1) | exact hn352_1) (.int .i64 ((rd_T26 l0_0 x5_1).f1))).trans hx352_2
           replace hx352_3 := (cell_far (p := ⟨gb351, 1, none⟩) (by first | (rw [add_block]; exact hn352_1) | (show (Addr.add _ _).block ≠ _; rw [add_block]; exact hn352_1) | exact hn352_1) (.int .i64 ((rd_T26 l0_0 x5_1).f1))).trans hx352_3
           replace hx352_4 := (cell_far (p := ⟨gb351, 1, none⟩) (by first | (rw [add_block]; exact hn352_1) | (show (Addr.add _ _).block ≠ _; rw [add_block]; exact hn352_1) | exact hn352_1) (.int .i64 ((rd_T26 l0_0 x5_1).f1))).trans hx352_4
           replace hx352_0 := (cell_far (p := ⟨gb351, 2, none⟩) (by first | (rw [add_block]; exact hn352_2) | (show (Addr.add _ _).block ≠ _; rw [add_block]; exact hn352_2) | exact hn352_2) (.int .i64 0)).trans hx352_0
           replace hx352_1 := (cell_far (p := ⟨gb351, 2, none⟩) (by first | (rw [add_block]; exact hn352_2) | (show (Addr.add _ _).block ≠ _; rw [add_block]; exact hn352_2) | exact hn352_2) (.int .i64 0)).trans hx352_1
           replace hx352_2 := (cell_far (p := ⟨gb351, 2, none⟩) (by first | (rw [add_block]; exact hn352_2) | (show (Addr.add _ _).block ≠ _; rw [add_block]; exact hn352_2) | exact hn352_2) (.int .i64 0)).trans hx352_2
           replace hx352_3 := (cell_far (p := ⟨gb351, 2, none⟩) (by first | (rw [add_block]; exact hn352_2) | (show (Addr.add _ _).block ≠ _; rw [add_block]; exact hn352_2) | exact hn352_2) (.int .i64 0)).trans hx352_3
           replace hx352_4 := (cell_far (p := ⟨gb351, 2, none⟩) (by first | (rw [add_block]; exact hn352_2) | (show (Addr.add _ _).block ≠ _; rw [add_block]; exact hn352_2) | exact hn352_2) (.int .i64 0)).trans hx352_4
           replace hx352_0 := (cell_far (p := ⟨gb351, 3, none⟩) (by first | (rw [add_block]; exact hn352_3) | (show (Addr.add _ _).block ≠ _; rw [add_block]; exact hn352_3) | exact hn352_3) (.int .i64 0)).trans hx352_0
           replace hx352_1 := (cell_far (p := ⟨gb351, 3, none⟩) (by first | (rw [add_block]; exact hn352_3) | (show (Addr.add _ _).block ≠ _; rw [add_block]; exact hn352_3) | exact hn352_3) (.int .i64 0)).trans hx352_1
           replace hx352_2 := (cell_far (p := ⟨gb351, 3, none⟩) (by first | (rw [add_block]; exact hn352_3) | (show (Addr.add _ _).block ≠ _; rw [add_block]; exact hn352_3) | exact hn352_3) (.int .i64 0)).trans hx352_2
           replace hx352_3 := (cell_far (p := ⟨gb351, 3, none⟩) (by first | (rw [add_block]; exact hn352_3) | (show (Addr.add _ _).block ≠ _; rw [add_block]; exact hn352_3) | exact hn352_3) (.int .i64 0)).trans hx352_3
           replace hx352_4 := (cell_far (p := ⟨gb351, 3, none⟩) (by first | (rw [add_block]; exact hn352_3) | (show (Addr.add _ _).block ≠ _; rw [add_block]; exact hn352_3) | exact hn352_3) (.int .i64 0)).trans hx352_4
           replace hx352_0 := (cell_far (p := ⟨gb351, 4, none⟩) (by first | (rw [add_block]; exact hn352_4) | (show (Addr.add _ _).block ≠ _; rw [add_block]; exact hn352_4) | exact hn352_4) (.string ((rd_T26 l0_0 x5_1).f4))).trans hx352_0
           replace hx352_1 := (cell_far (p := ⟨gb351, 4, none⟩) (by first | (rw [add_block]; exact hn352_4) | (show (Addr.add _ _).block ≠ _; rw [add_block]; exact hn352_4) | exact hn352_4) (.string ((rd_T26 l0_0 x5_1).f4))).trans hx352_1
           replace hx352_2 := (cell_far (p := ⟨gb351, 4, none⟩) (by first | (rw [add_block]; exact hn352_4) | (show (Addr.add _ _).block ≠ _; rw [add_block]; exact hn352_4) | exact hn352_4) (.string ((rd_T26 l0_0 x5_1).f4))).trans hx352_2
           replace hx352_3 := (cell_far (p := ⟨gb351, 4, none⟩) (by first | (rw [add_block]; exact hn352_4) | (show (Addr.add _ _).block ≠ _; rw [add_block]; exact hn352_4) | exact hn352_4) (.string ((rd_T26 l0_0 x5_1).f4))).trans hx352_3
           replace hx352_4 := (cell_far (p := ⟨gb351, 4, none⟩) (by first | (rw [add_block]; exact hn352_4) | (show (Addr.add _ _).block ≠ _; rw [add_block]; exact hn352_4) | exact hn352_4) (.string ((rd_T26 l0_0 x5_1).f4))).trans hx352_4
           clear hn352_0
           clear hn352_1
           clear hn352_2
           clear hn352_3
           clear hn352_4
           replace p352 := eq_true p352
           replace q352 := eq_true q352
           obtain ⟨hcz29_0, hcz29_1, hcz29_2, hcz29_3, hcz29_4⟩ := cells5 BK351.out
           have hfz29_0 := fun i_ => blk_frozen BK351.out i_
           go_wp2
           go_meet
           case rel => exact ⟨_, ((rd_T26 l0_0 x5_1).f2), (0), H', ⟨by have := HK1.out; have := HJ10.out; first | omega | exact Nat.le_refl _⟩, ⟨by (with_reducible repeat (first | refine blk_drewN ?_ _ | refine blk_drew ?_ | refine blk_alloc ?_ _ | refine blk_far ?_ NB346_351.out _)); exact BK346.out⟩, ⟨by (with_reducible repeat (first | refine blk_drewN ?_ _ | refine blk_drew ?_ | refine blk_alloc ?_ _)); refine blk_put (cs := #[.int .i64 a1, .int .i64 ((rd_T26 l0_0 x5_1).f1), .int .i64 0, .int .i64 0, .string ((rd_T26 l0_0 x5_1).f4)]) ?_ 2 _ rfl; (with_reducible repeat (first | refine blk_drewN ?_ _ | refine blk_drew ?_ | refine blk_alloc ?_ _)); refine blk_put (cs := #[.int .i64 a1, .int .i64 ((rd_T26 l0_0 x5_1).f1), .int .i64 0, .int .i64 0, .string (⟨#[]⟩ : ByteArray)]) ?_ 4 _ rfl; (with_reducible repeat (first | refine blk_drewN ?_ _ | refine blk_drew ?_ | refine blk_alloc ?_ _)); refine blk_put (cs := #[.int .i64 a1, .int .i64 ((rd_T26 l0_0 x5_1).f1), .int .i64 0, .int .i64 0, .string (⟨#[]⟩ : ByteArray)]) ?_ 3 _ rfl; (with_reducible repeat (first | refine blk_drewN ?_ _ | refine blk_drew ?_ | refine blk_alloc ?_ _)); refine blk_put (cs := #[.int .i64 a1, .int .i64 ((rd_T26 l0_0 x5_1).f1), .int .i64 0, .int .i64 0, .string (⟨#[]⟩ : ByteArray)]) ?_ 2 _ rfl; (with_reducible repeat (first | refine blk_drewN ?_ _ | refine blk_drew ?_ | refine blk_alloc ?_ _)); refine blk_put (cs := #[.int .i64 a1, .int .i64 0, .int .i64 0, .int .i64 0, .string (⟨#[]⟩ : ByteArray)]) ?_ 1 _ rfl; (with_reducible repeat (first | refine blk_drewN ?_ _ | refine blk_drew ?_ | refine blk_alloc ?_ _)); refine blk_put (cs := #[.int .i64 0, .int .i64 0, .int .i64 0, .int .i64 0, .string (⟨#[]⟩ : ByteArray)]) ?_ 0 _ rfl; (with_reducible repeat (first | refine blk_drewN ?_ _ | refine blk_drew ?_ | refine blk_alloc ?_ _)); exact BK351.out⟩, ⟨by repeat (first | (with_reducible first | exact HB.out | apply below_alloc | apply pw_below_drewN | apply below_drew1 | refine below_set ?_ GE346.out | refine below_set ?_ GE351.out) | exact HB.out)⟩⟩
          ·
           rw [if_neg c26] at H
           have c26b0 : (a1 == 2) = false := beq_eq_false_iff_ne.mpr c26
           have c26b1 : (a1 != 2) = true := bne_iff_ne.mpr c26
           (first | rw [c26b0] | (simp only [i64_w, i32_w]; rw [c26b0]) | skip)
           by_cases c30 : a1 = 3
           ·
            rw [if_pos c30] at H
            have c30b0 : (a1 == 3) = true := beq_iff_eq.mpr c30
            have c30b1 : (a1 != 3) = false := bne_eq_false_iff_eq.mpr c30
            clear c30
            have H' := Aside0.mk H
            clear H
            have hnb31 := NB346_351.out
            have hnc31 := NB351_346.out
            obtain ⟨hcz32_0, hcz32_1⟩ := cells2 BK346.out
            have hfz32_0 := fun i_ => blk_frozen BK346.out i_
            have p353 : 0 ≤ (x5_1 : Int) := of_decide_eq_true (by first | (with_reducible assumption) | assumption)
            have q353 : x5_1 < (l0_0.length : Int) := of_decide_eq_true (by first | (with_reducible assumption) | assumption)
            obtain ⟨ad353, e353, hx353_0, hx353_1, hx353_2, hx353_3, hx353_4⟩ := at_T26 HR0_0.out x5_1 p353 q353
            obtain rfl : ad349 = ad353 := (by injection e353)
            have hn353_0 : ad349.block ≠ gb351 := Nat.ne_of_lt (Nat.lt_of_lt_of_le (by have := World.block_lt_of_cell? _ _ hx353_0; first | rwa [add_block] at this | exact this) GW351.out)
            have hn353_1 : ad349.block ≠ gb351 := Nat.ne_of_lt (Nat.lt_of_lt_of_le (by have := World.block_lt_of_cell? _ _ hx353_0; first | rwa [add_block] at this | exact this) GW351.out)
            have hn353_2 : ad349.block ≠ gb351 := Nat.ne_of_lt (Nat.lt_of_lt_of_le (by have := World.block_lt_of_cell? _ _ hx353_0; first | rwa [add_block] at this | exact this) GW351.out)
            have hn353_3 : ad349.block ≠ gb351 := Nat.ne_of_lt (Nat.lt_of_lt_of_le (by have := World.block_lt_of_cell? _ _ hx353_0; first | rwa [add_block] at this | exact this) GW351.out)
            have hn353_4 : ad349.block ≠ gb351 := Nat.ne_of_lt (Nat.lt_of_lt_of_le (by have := World.block_lt_of_cell? _ _ hx353_0; first | rwa [add_block] at this | exact this) GW351.out)
            replace hx353_0 := (HB.out.cell (World.block_lt_of_cell? w _ hx353_0)).trans hx353_0
            replace hx353_1 := (HB.out.cell (World.block_lt_of_cell? w _ hx353_1)).trans hx353_1
            replace hx353_2 := (HB.out.cell (World.block_lt_of_cell? w _ hx353_2)).trans hx353_2
            replace hx353_3 := (HB.out.cell (World.block_lt_of_cell? w _ hx353_3)).trans hx353_3
            replace hx353_4 := (HB.out.cell (World.block_lt_of_cell? w _ hx353_4)).trans hx353_4
            replace hx353_0 := (cell_far (p := ⟨gb351, 0, none⟩) (by first | (rw [add_block]; exact hn353_0) | (show (Addr.add _ _).block ≠ _; rw [add_block]; exact hn353_0) | exact hn353_0) (.int .i64 a1)).trans hx353_0
            replace hx353_1 := (cell_far (p := ⟨gb351, 0, none⟩) (by first | (rw [add_block]; exact hn353_0) | (show (Addr.add _ _).block ≠ _; rw [add_block]; exact hn353_0) | exact hn353_0) (.int .i64 a1)).trans hx353_1
            replace hx353_2 := (cell_far (p := ⟨gb351, 0, none⟩) (by first | (rw [add_block]; exact hn353_0) | (show (Addr.add _ _).block ≠ _; rw [add_block]; exact hn353_0) | exact hn353_0) (.int .i64 a1)).trans hx353_2
            replace hx353_3 := (cell_far (p := ⟨gb351, 0, none⟩) (by first | (rw [add_block]; exact hn353_0) | (show (Addr.add _ _).block ≠ _; rw [add_block]; exact hn353_0) | exact hn353_0) (.int .i64 a1)).trans hx353_3
            replace hx353_4 := (cell_far (p := ⟨gb351, 0, none⟩) (by first | (rw [add_block]; exact hn353_0) | (show (Addr.add _ _).block ≠ _; rw [add_block]; exact hn353_0) | exact hn353_0) (.int .i64 a1)).trans hx353_4
            replace hx353_0 := (cell_far (p := ⟨gb351, 1, none⟩) (by first | (rw [add_block]; exact hn353_1) | (show (Addr.add _ _).block ≠ _; rw [add_block]; exact hn353_1) | exact hn353_1) (.int .i64 ((rd_T26 l0_0 x5_1).f1))).trans hx353_0
            replace hx353_1 := (cell_far (p := ⟨gb351, 1, none⟩) (by first | (rw [add_block]; exact hn353_1) | (show (Addr.add _ _).block ≠ _; rw [add_block]; exact hn353_1) | exact hn353_1) (.int .i64 ((rd_T26 l0_0 x5_1).f1))).trans hx353_1
            replace hx353_2 := (cell_far (p := ⟨gb351, 1, none⟩) (by first | (rw [add_block]; exact hn353_1) | (show (Addr.add _ _).block ≠ _; rw [add_block]; exact hn353_1) | exact hn353_1) (.int .i64 ((rd_T26 l0_0 x5_1).f1))).trans hx353_2
            replace hx353_3 := (cell_far (p := ⟨gb351, 1, none⟩) (by first | (rw [add_block]; exact hn353_1) | (show (Addr.add _ _).block ≠ _; rw [add_block]; exact hn353_1) | exact hn353_1) (.int .i64 ((rd_T26 l0_0 x5_1).f1))).trans hx353_3
            replace hx353_4 := (cell_far (p := ⟨gb351, 1, none⟩) (by first | (rw [add_block]; exact hn353_1) | (show (Addr.add _ _).block ≠ _; rw [add_block]; exact hn353_1) | exact hn353_1) (.int .i64 ((rd_T26 l0_0 x5_1).f1))).trans hx353_4
            replace hx353_0 := (cell_far (p := ⟨gb351, 2, none⟩) (by first | (rw [add_block]; exact hn353_2) | (show (Addr.add _ _).block ≠ _; rw [add_block]; exact hn353_2) | exact hn353_2) (.int .i64 0)).trans hx353_0
            replace hx353_1 := (cell_far (p := ⟨gb351, 2, none⟩) (by first | (rw [add_block]; exact hn353_2) | (show (Addr.add _ _).block ≠ _; rw [add_block]; exact hn353_2) | exact hn353_2) (.int .i64 0)).trans hx353_1
            replace hx353_2 := (cell_far (p := ⟨gb351, 2, none⟩) (by first | (rw [add_block]; exact hn353_2) | (show (Addr.add _ _).block ≠ _; rw [add_block]; exact hn353_2) | exact hn353_2) (.int .i64 0)).trans hx353_2
            replace hx353_3 := (cell_far (p := ⟨gb351, 2, none⟩) (by first | (rw [add_block]; exact hn353_2) | (show (Addr.add _ _).block ≠ _; rw [add_block]; exact hn353_2) | exact hn353_2) (.int .i64 0)).trans hx353_3
            replace hx353_4 := (cell_far (p := ⟨gb351, 2, none⟩) (by first | (rw [add_block]; exact hn353_2) | (show (Addr.add _ _).block ≠ _; rw [add_block]; exact hn353_2) | exact hn353_2) (.int .i64 0)).trans hx353_4
            replace hx353_0 := (cell_far (p := ⟨gb351, 3, none⟩) (by first | (rw [add_block]; exact hn353_3) | (show (Addr.add _ _).block ≠ _; rw [add_block]; exact hn353_3) | exact hn353_3) (.int .i64 0)).trans hx353_0
            replace hx353_1 := (cell_far (p := ⟨gb351, 3, none⟩) (by first | (rw [add_block]; exact hn353_3) | (show (Addr.add _ _).block ≠ _; rw [add_block]; exact hn353_3) | exact hn353_3) (.int .i64 0)).trans hx353_1
            replace hx353_2 := (cell_far (p := ⟨gb351, 3, none⟩) (by first | (rw [add_block]; exact hn353_3) | (show (Addr.add _ _).block ≠ _; rw [add_block]; exact hn353_3) | exact hn353_3) (.int .i64 0)).trans hx353_2
            replace hx353_3 := (cell_far (p := ⟨gb351, 3, none⟩) (by first | (rw [add_block]; exact hn353_3) | (show (Addr.add _ _).block ≠ _; rw [add_block]; exact hn353_3) | exact hn353_3) (.int .i64 0)).trans hx353_3
            replace hx353_4 := (cell_far (p := ⟨gb351, 3, none⟩) (by first | (rw [add_block]; exact hn353_3) | (show (Addr.add _ _).block ≠ _; rw [add_block]; exact hn353_3) | exact hn353_3) (.int .i64 0)).trans hx353_4
            replace hx353_0 := (cell_far (p := ⟨gb351, 4, none⟩) (by first | (rw [add_block]; exact hn353_4) | (show (Addr.add _ _).block ≠ _; rw [add_block]; exact hn353_4) | exact hn353_4) (.string ((rd_T26 l0_0 x5_1).f4))).trans hx353_0
            replace hx353_1 := (cell_far (p := ⟨gb351, 4, none⟩) (by first | (rw [add_block]; exact hn353_4) | (show (Addr.add _ _).block ≠ _; rw [add_block]; exact hn353_4) | exact hn353_4) (.string ((rd_T26 l0_0 x5_1).f4))).trans hx353_1
            replace hx353_2 := (cell_far (p := ⟨gb351, 4, none⟩) (by first | (rw [add_block]; exact hn353_4) | (show (Addr.add _ _).block ≠ _; rw [add_block]; exact hn353_4) | exact hn353_4) (.string ((rd_T26 l0_0 x5_1).f4))).trans hx353_2
            replace hx353_3 := (cell_far (p := ⟨gb351, 4, none⟩) (by first | (rw [add_block]; exact hn353_4) | (show (Addr.add _ _).block ≠ _; rw [add_block]; exact hn353_4) | exact hn353_4) (.string ((rd_T26 l0_0 x5_1).f4))).trans hx353_3
            replace hx353_4 := (cell_far (p := ⟨gb351, 4, none⟩) (by first | (rw [add_block]; exact hn353_4) | (show (Addr.add _ _).block ≠ _; rw [add_block]; exact hn353_4) | exact hn353_4) (.string ((rd_T26 l0_0 x5_1).f4))).trans hx353_4
            clear hn353_0
            clear hn353_1
            clear hn353_2
            clear hn353_3
            clear hn353_4
            replace p353 := eq_true p353
            replace q353 := eq_true q353
            obtain ⟨hcz33_0, hcz33_1, hcz33_2, hcz33_3, hcz33_4⟩ := cells5 BK351.out
            have hfz33_0 := fun i_ => blk_frozen BK351.out i_
            go_wp2
            go_meet
            case rel => exact ⟨_, (0), ((rd_T26 l0_0 x5_1).f3), H', ⟨by have := HK1.out; have := HJ10.out; first | omega | exact Nat.le_refl _⟩, ⟨by (with_reducible repeat (first | refine blk_drewN ?_ _ | refine blk_drew ?_ | refine blk_alloc ?_ _ | refine blk_far ?_ NB346_351.out _)); exact BK346.out⟩, ⟨by (with_reducible repeat (first | refine blk_drewN ?_ _ | refine blk_drew ?_ | refine blk_alloc ?_ _)); refine blk_put (cs := #[.int .i64 a1, .int .i64 ((rd_T26 l0_0 x5_1).f1), .int .i64 0, .int .i64 0, .string ((rd_T26 l0_0 x5_1).f4)]) ?_ 3 _ rfl; (with_reducible repeat (first | refine blk_drewN ?_ _ | refine blk_drew ?_ | refine blk_alloc ?_ _)); refine blk_put (cs := #[.int .i64 a1, .int .i64 ((rd_T26 l0_0 x5_1).f1), .int .i64 0, .int .i64 0, .string (⟨#[]⟩ : ByteArray)]) ?_ 4 _ rfl; (with_reducible repeat (first | refine blk_drewN ?_ _ | refine blk_drew ?_ | refine blk_alloc ?_ _)); refine blk_put (cs := #[.int .i64 a1, .int .i64 ((rd_T26 l0_0 x5_1).f1), .int .i64 0, .int .i64 0, .string (⟨#[]⟩ : ByteArray)]) ?_ 3 _ rfl; (with_reducible repeat (first | refine blk_drewN ?_ _ | refine blk_drew ?_ | refine blk_alloc ?_ _)); refine blk_put (cs := #[.int .i64 a1, .int .i64 ((rd_T26 l0_0 x5_1).f1), .int .i64 0, .int .i64 0, .string (⟨#[]⟩ : ByteArray)]) ?_ 2 _ rfl; (with_reducible repeat (first | refine blk_drewN ?_ _ | refine blk_drew ?_ | refine blk_alloc ?_ _)); refine blk_put (cs := #[.int .i64 a1, .int .i64 0, .int .i64 0, .int .i64 0, .string (⟨#[]⟩ : ByteArray)]) ?_ 1 _ rfl; (with_reducible repeat (first | refine blk_drewN ?_ _ | refine blk_drew ?_ | refine blk_alloc ?_ _)); refine blk_put (cs := #[.int .i64 0, .int .i64 0, .int .i64 0, .int .i64 0, .string (⟨#[]⟩ : ByteArray)]) ?_ 0 _ rfl; (with_reducible repeat (first | refine blk_drewN ?_ _ | refine blk_drew ?_ | refine blk_alloc ?_ _)); exact BK351.out⟩, ⟨by repeat (first | (with_reducible first | exact HB.out | apply below_alloc | apply pw_below_drewN | apply below_drew1 | refine below_set ?_ GE346.out | refine below_set ?_ GE351.out) | exact HB.out)⟩⟩
           ·
            rw [if_neg c30] at H
            have c30b0 : (a1 == 3) = false := beq_eq_false_iff_ne.mpr c30
            have c30b1 : (a1 != 3) = true := bne_iff_ne.mpr c30
            by_cases c34 : a1 = 5
            ·
             rw [if_pos c34] at H
             have c34b0 : (a1 == 5) = true := beq_iff_eq.mpr c34
             have c34b1 : (a1 != 5) = false := bne_eq_false_iff_eq.mpr c34
             clear c34
             have H' := Aside0.mk H
             clear H
             have hnb35 := NB346_351.out
             have hnc35 := NB351_346.out
             obtain ⟨hcz36_0, hcz36_1⟩ := cells2 BK346.out
             have hfz36_0 := fun i_ => blk_frozen BK346.out i_
             have p354 : 0 ≤ (x5_1 : Int) := of_decide_eq_true (by first | (with_reducible assumption) | assumption)
             have q354 : x5_1 < (l0_0.length : Int) := of_decide_eq_true (by first | (with_reducible assumption) | assumption)
             obtain ⟨ad354, e354, hx354_0, hx354_1, hx354_2, hx354_3, hx354_4⟩ := at_T26 HR0_0.out x5_1 p354 q354
             obtain rfl : ad349 = ad354 := (by injection e354)
             have hn354_0 : ad349.block ≠ gb351 := Nat.ne_of_lt (Nat.lt_of_lt_of_le (by have := World.block_lt_of_cell? _ _ hx354_0; first | rwa [add_block] at this | exact this) GW351.out)
             have hn354_1 : ad349.block ≠ gb351 := Nat.ne_of_lt (Nat.lt_of_lt_of_le (by have := World.block_lt_of_cell? _ _ hx354_0; first | rwa [add_block] at this | exact this) GW351.out)
             have hn354_2 : ad349.block ≠ gb351 := Nat.ne_of_lt (Nat.lt_of_lt_of_le (by have := World.block_lt_of_cell? _ _ hx354_0; first | rwa [add_block] at this | exact this) GW351.out)
             have hn354_3 : ad349.block ≠ gb351 := Nat.ne_of_lt (Nat.lt_of_lt_of_le (by have := World.block_lt_of_cell? _ _ hx354_0; first | rwa [add_block] at this | exact this) GW351.out)
             have hn354_4 : ad349.block ≠ gb351 := Nat.ne_of_lt (Nat.lt_of_lt_of_le (by have := World.block_lt_of_cell? _ _ hx354_0; first | rwa [add_block] at this | exact this) GW351.out)
             replace hx354_0 := (HB.out.cell (World.block_lt_of_cell? w _ hx354_0)).trans hx354_0
             replace hx354_1 := (HB.out.cell (World.block_lt_of_cell? w _ hx354_1)).trans hx354_1
             replace hx354_2 := (HB.out.cell (World.block_lt_of_cell? w _ hx354_2)).trans hx354_2
             replace hx354_3 := (HB.out.cell (World.block_lt_of_cell? w _ hx354_3)).trans hx354_3
             replace hx354_4 := (HB.out.cell (World.block_lt_of_cell? w _ hx354_4)).trans hx354_4
             replace hx354_0 := (cell_far (p := ⟨gb351, 0, none⟩) (by first | (rw [add_block]; exact hn354_0) | (show (Addr.add _ _).block ≠ _; rw [add_block]; exact hn354_0) | exact hn354_0) (.int .i64 a1)).trans hx354_0
             replace hx354_1 := (cell_far (p := ⟨gb351, 0, none⟩) (by first | (rw [add_block]; exact hn354_0) | (show (Addr.add _ _).block ≠ _; rw [add_block]; exact hn354_0) | exact hn354_0) (.int .i64 a1)).trans hx354_1
             replace hx354_2 := (cell_far (p := ⟨gb351, 0, none⟩) (by first | (rw [add_block]; exact hn354_0) | (show (Addr.add _ _).block ≠ _; rw [add_block]; exact hn354_0) | exact hn354_0) (.int .i64 a1)).trans hx354_2
             replace hx354_3 := (cell_far (p := ⟨gb351, 0, none⟩) (by first | (rw [add_block]; exact hn354_0) | (show (Addr.add _ _).block ≠ _; rw [add_block]; exact hn354_0) | exact hn354_0) (.int .i64 a1)).trans hx354_3
             replace hx354_4 := (cell_far (p := ⟨gb351, 0, none⟩) (by first | (rw [add_block]; exact hn354_0) | (show (Addr.add _ _).block ≠ _; rw [add_block]; exact hn354_0) | exact hn354_0) (.int .i64 a1)).trans hx354_4
             replace hx354_0 := (cell_far (p := ⟨gb351, 1, none⟩) (by first | (rw [add_block]; exact hn354_1) | (show (Addr.add _ _).block ≠ _; rw [add_block]; exact hn354_1) | exact hn354_1) (.int .i64 ((rd_T26 l0_0 x5_1).f1))).trans hx354_0
             replace hx354_1 := (cell_far (p := ⟨gb351, 1, none⟩) (by first | (rw [add_block]; exact hn354_1) | (show (Addr.add _ _).block ≠ _; rw [add_block]; exact hn354_1) | exact hn354_1) (.int .i64 ((rd_T26 l0_0 x5_1).f1))).trans hx354_1
             replace hx354_2 := (cell_far (p := ⟨gb351, 1, none⟩) (by first | (rw [add_block]; exact hn354_1) | (show (Addr.add _ _).block ≠ _; rw [add_block]; exact hn354_1) | exact hn354_1) (.int .i64 ((rd_T26 l0_0 x5_1).f1))).trans hx354_2
             replace hx354_3 := (cell_far (p := ⟨gb351, 1, none⟩) (by first | (rw [add_block]; exact hn354_1) | (show (Addr.add _ _).block ≠ _; rw [add_block]; exact hn354_1) | exact hn354_1) (.int .i64 ((rd_T26 l0_0 x5_1).f1))).trans hx354_3
             replace hx354_4 := (cell_far (p := ⟨gb351, 1, none⟩) (by first | (rw [add_block]; exact hn354_1) | (show (Addr.add _ _).block ≠ _; rw [add_block]; exact hn354_1) | exact hn354_1) (.int .i64 ((rd_T26 l0_0 x5_1).f1))).trans hx354_4
             replace hx354_0 := (cell_far (p := ⟨gb351, 2, none⟩) (by first | (rw [add_block]; exact hn354_2) | (show (Addr.add _ _).block ≠ _; rw [add_block]; exact hn354_2) | exact hn354_2) (.int .i64 0)).trans hx354_0
             replace hx354_1 := (cell_far (p := ⟨gb351, 2, none⟩) (by first | (rw [add_block]; exact hn354_2) | (show (Addr.add _ _).block ≠ _; rw [add_block]; exact hn354_2) | exact hn354_2) (.int .i64 0)).trans hx354_1
             replace hx354_2 := (cell_far (p := ⟨gb351, 2, none⟩) (by first | (rw [add_block]; exact hn354_2) | (show (Addr.add _ _).block ≠ _; rw [add_block]; exact hn354_2) | exact hn354_2) (.int .i64 0)).trans hx354_2
             replace hx354_3 := (cell_far (p := ⟨gb351, 2, none⟩) (by first | (rw [add_block]; exact hn354_2) | (show (Addr.add _ _).block ≠ _; rw [add_block]; exact hn354_2) | exact hn354_2) (.int .i64 0)).trans hx354_3
             replace hx354_4 := (cell_far (p := ⟨gb351, 2, none⟩) (by first | (rw [add_block]; exact hn354_2) | (show (Addr.add _ _).block ≠ _; rw [add_block]; exact hn354_2) | exact hn354_2) (.int .i64 0)).trans hx354_4
             replace hx354_0 := (cell_far (p := ⟨gb351, 3, none⟩) (by first | (rw [add_block]; exact hn354_3) | (show (Addr.add _ _).block ≠ _; rw [add_block]; exact hn354_3) | exact hn354_3) (.int .i64 0)).trans hx354_0
             replace hx354_1 := (cell_far (p := ⟨gb351, 3, none⟩) (by first | (rw [add_block]; exact hn354_3) | (show (Addr.add _ _).block ≠ _; rw [add_block]; exact hn354_3) | exact hn354_3) (.int .i64 0)).trans hx354_1
             replace hx354_2 := (cell_far (p := ⟨gb351, 3, none⟩) (by first | (rw [add_block]; exact hn354_3) | (show (Addr.add _ _).block ≠ _; rw [add_block]; exact hn354_3) | exact hn354_3) (.int .i64 0)).trans hx354_2
             replace hx354_3 := (cell_far (p := ⟨gb351, 3, none⟩) (by first | (rw [add_block]; exact hn354_3) | (show (Addr.add _ _).block ≠ _; rw [add_block]; exact hn354_3) | exact hn354_3) (.int .i64 0)).trans hx354_3
             replace hx354_4 := (cell_far (p := ⟨gb351, 3, none⟩) (by first | (rw [add_block]; exact hn354_3) | (show (Addr.add _ _).block ≠ _; rw [add_block]; exact hn354_3) | exact hn354_3) (.int .i64 0)).trans hx354_4
             replace hx354_0 := (cell_far (p := ⟨gb351, 4, none⟩) (by first | (rw [add_block]; exact hn354_4) | (show (Addr.add _ _).block ≠ _; rw [add_block]; exact hn354_4) | exact hn354_4) (.string ((rd_T26 l0_0 x5_1).f4))).trans hx354_0
             replace hx354_1 := (cell_far (p := ⟨gb351, 4, none⟩) (by first | (rw [add_block]; exact hn354_4) | (show (Addr.add _ _).block ≠ _; rw [add_block]; exact hn354_4) | exact hn354_4) (.string ((rd_T26 l0_0 x5_1).f4))).trans hx354_1
             replace hx354_2 := (cell_far (p := ⟨gb351, 4, none⟩) (by first | (rw [add_block]; exact hn354_4) | (show (Addr.add _ _).block ≠ _; rw [add_block]; exact hn354_4) | exact hn354_4) (.string ((rd_T26 l0_0 x5_1).f4))).trans hx354_2
             replace hx354_3 := (cell_far (p := ⟨gb351, 4, none⟩) (by first | (rw [add_block]; exact hn354_4) | (show (Addr.add _ _).block ≠ _; rw [add_block]; exact hn354_4) | exact hn354_4) (.string ((rd_T26 l0_0 x5_1).f4))).trans hx354_3
             replace hx354_4 := (cell_far (p := ⟨gb351, 4, none⟩) (by first | (rw [add_block]; exact hn354_4) | (show (Addr.add _ _).block ≠ _; rw [add_block]; exact hn354_4) | exact hn354_4) (.string ((rd_T26 l0_0 x5_1).f4))).trans hx354_4
             clear hn354_0
             clear hn354_1
             clear hn354_2
             clear hn354_3
             clear hn354_4
             replace p354 := eq_true p354
             replace q354 := eq_true q354
             obtain ⟨hcz37_0, hcz37_1, hcz37_2, hcz37_3, hcz37_4⟩ := cells5 BK351.out
             have hfz37_0 := fun i_ => blk_frozen BK351.out i_
             go_wp2
             go_meet
             case rel => exact ⟨_, (0), ((rd_T26 l0_0 x5_1).f3), H', ⟨by have := HK1.out; have := HJ10.out; first | omega | exact Nat.le_refl _⟩, ⟨by (with_reducible repeat (first | refine blk_drewN ?_ _ | refine blk_drew ?_ | refine blk_alloc ?_ _ | refine blk_far ?_ NB346_351.out _)); exact BK346.out⟩, ⟨by (with_reducible repeat (first | refine blk_drewN ?_ _ | refine blk_drew ?_ | refine blk_alloc ?_ _)); refine blk_put (cs := #[.int .i64 a1, .int .i64 ((rd_T26 l0_0 x5_1).f1), .int .i64 0, .int .i64 0, .string ((rd_T26 l0_0 x5_1).f4)]) ?_ 3 _ rfl; (with_reducible repeat (first | refine blk_drewN ?_ _ | refine blk_drew ?_ | refine blk_alloc ?_ _)); refine blk_put (cs := #[.int .i64 a1, .int .i64 ((rd_T26 l0_0 x5_1).f1), .int .i64 0, .int .i64 0, .string (⟨#[]⟩ : ByteArray)]) ?_ 4 _ rfl; (with_reducible repeat (first | refine blk_drewN ?_ _ | refine blk_drew ?_ | refine blk_alloc ?_ _)); refine blk_put (cs := #[.int .i64 a1, .int .i64 ((rd_T26 l0_0 x5_1).f1), .int .i64 0, .int .i64 0, .string (⟨#[]⟩ : ByteArray)]) ?_ 3 _ rfl; (with_reducible repeat (first | refine blk_drewN ?_ _ | refine blk_drew ?_ | refine blk_alloc ?_ _)); refine blk_put (cs := #[.int .i64 a1, .int .i64 ((rd_T26 l0_0 x5_1).f1), .int .i64 0, .int .i64 0, .string (⟨#[]⟩ : ByteArray)]) ?_ 2 _ rfl; (with_reducible repeat (first | refine blk_drewN ?_ _ | refine blk_drew ?_ | refine blk_alloc ?_ _)); refine blk_put (cs := #[.int .i64 a1, .int .i64 0, .int .i64 0, .int .i64 0, .string (⟨#[]⟩ : ByteArray)]) ?_ 1 _ rfl; (with_reducible repeat (first | refine blk_drewN ?_ _ | refine blk_drew ?_ | refine blk_alloc ?_ _)); refine blk_put (cs := #[.int .i64 0, .int .i64 0, .int .i64 0, .int .i64 0, .string (⟨#[]⟩ : ByteArray)]) ?_ 0 _ rfl; (with_reducible repeat (first | refine blk_drewN ?_ _ | refine blk_drew ?_ | refine blk_alloc ?_ _)); exact BK351.out⟩, ⟨by repeat (first | (with_reducible first | exact HB.out | apply below_alloc | apply pw_below_drewN | apply below_drew1 | refine below_set ?_ GE346.out | refine below_set ?_ GE351.out) | exact HB.out)⟩⟩
            ·
             rw [if_neg c34] at H
             have c34b0 : (a1 == 5) = false := beq_eq_false_iff_ne.mpr c34
             have c34b1 : (a1 != 5) = true := bne_iff_ne.mpr c34
             have H' := Aside0.mk H
             clear H
             go_wp2
             go_meet
             case rel => exact ⟨_, (0), (0), H', ⟨by have := HK1.out; have := HJ10.out; first | omega | exact Nat.le_refl _⟩, ⟨by (with_reducible repeat (first | refine blk_drewN ?_ _ | refine blk_drew ?_ | refine blk_alloc ?_ _ | refine blk_far ?_ NB346_351.out _)); exact BK346.out⟩, ⟨by (with_reducible repeat (first | refine blk_drewN ?_ _ | refine blk_drew ?_ | refine blk_alloc ?_ _)); refine blk_put (cs := #[.int .i64 a1, .int .i64 ((rd_T26 l0_0 x5_1).f1), .int .i64 0, .int .i64 0, .string (⟨#[]⟩ : ByteArray)]) ?_ 4 _ rfl; (with_reducible repeat (first | refine blk_drewN ?_ _ | refine blk_drew ?_ | refine blk_alloc ?_ _)); refine blk_put (cs := #[.int .i64 a1, .int .i64 ((rd_T26 l0_0 x5_1).f1), .int .i64 0, .int .i64 0, .string (⟨#[]⟩ : ByteArray)]) ?_ 3 _ rfl; (with_reducible repeat (first | refine blk_drewN ?_ _ | refine blk_drew ?_ | refine blk_alloc ?_ _)); refine blk_put (cs := #[.int .i64 a1, .int .i64 ((rd_T26 l0_0 x5_1).f1), .int .i64 0, .int .i64 0, .string (⟨#[]⟩ : ByteArray)]) ?_ 2 _ rfl; (with_reducible repeat (first | refine blk_drewN ?_ _ | refine blk_drew ?_ | refine blk_alloc ?_ _)); refine blk_put (cs := #[.int .i64 a1, .int .i64 0, .int .i64 0, .int .i64 0, .string (⟨#[]⟩ : ByteArray)]) ?_ 1 _ rfl; (with_reducible repeat (first | refine blk_drewN ?_ _ | refine blk_drew ?_ | refine blk_alloc ?_ _)); refine blk_put (cs := #[.int .i64 0, .int .i64 0, .int .i64 0, .int .i64 0, .string (⟨#[]⟩ : ByteArray)]) ?_ 0 _ rfl; (with_reducible repeat (first | refine blk_drewN ?_ _ | refine blk_drew ?_ | refine blk_alloc ?_ _)); exact BK351.out⟩, ⟨by repeat (first | (with_reducible first | exact HB.out | apply below_alloc | apply pw_below_drewN | apply below_drew1 | refine below_set ?_ GE346.out | refine below_set ?_ GE351.out) | exact HB.out)⟩⟩
         case rest =>
          clear HC18
          (try clear c1); (try clear c2); (try clear p2); (try clear c3); (try clear p3); (try clear q3); (try clear hx3); (try clear c4); (try clear c12); (try clear c12b0); (try clear c15); (try clear c16); (try clear c16b0); (try clear c17); (try clear c17b0); (try clear c26); (try clear c26b0); (try clear c26b1); (try clear c27); (try clear c30); (try clear c30b0); (try clear c30b1); (try clear c31); (try clear c32); (try clear c34); (try clear c34b0); (try clear c34b1); (try clear p34); (try clear q34); (try clear hx34); (try clear c35); (try clear p35); (try clear q35); (try clear hx35); (try clear hcz13_0); (try clear hcz13_1); (try clear hcz14_0); (try clear hcz14_1); (try clear hcz28_0); (try clear hcz28_1); (try clear hcz29_0); (try clear hcz29_1); (try clear hcz29_2); (try clear hcz29_3); (try clear hcz29_4); (try clear hcz32_0); (try clear hcz32_1); (try clear hcz33_0); (try clear hcz33_1); (try clear hcz33_2); (try clear hcz33_3); (try clear hcz33_4); (try clear hcz36_0); (try clear hcz36_1); (try clear hcz37_0); (try clear hcz37_1); (try clear hcz37_2); (try clear hcz37_3); (try clear hcz37_4); (try clear hcz6_0); (try clear hcz6_1); (try clear hcz9_0); (try clear hcz9_1); (try clear hfz13_0); (try clear hfz14_0); (try clear hfz28_0); (try clear hfz29_0); (try clear hfz32_0); (try clear hfz33_0); (try clear hfz36_0); (try clear hfz37_0); (try clear hfz6_0); (try clear hfz9_0); (try clear hx349_0); (try clear hx349_1); (try clear hx349_2); (try clear hx349_3); (try clear hx349_4); (try clear hx350_0); (try clear hx350_1); (try clear hx350_2); (try clear hx350_3); (try clear hx350_4); (try clear hx352_0); (try clear hx352_1); (try clear hx352_2); (try clear hx352_3); (try clear hx352_4); (try clear hx353_0); (try clear hx353_1); (try clear hx353_2); (try clear hx353_3); (try clear hx353_4); (try clear hx354_0); (try clear hx354_1); (try clear hx354_2); (try clear hx354_3); (try clear hx354_4); (try clear p2); (try clear p349); (try clear p350); (try clear p352); (try clear p353); (try clear p354); (try clear q349); (try clear q350); (try clear q352); (try clear q353); (try clear q354)
          obtain ⟨kq, x352002_17, x352003_17, HA, HJ17, BK346, BK351, HB⟩ := hcut
          cases kq with
          | zero => exact absurd HA.out (by simp [thresherlaw16_kind.j2])
          | succ kj17 =>
           have H := HA.out
           clear HA
           simp only [thresherlaw16_kind.j2] at H
           have HC38 := Aside0.mk H
           clear H
           go_upto_region 13 with (fail)
           go_cut [76] (fun v76 wc => ∃ (kq : Nat) (x76_37 : Bool), v76 = .bool x76_37 ∧ Aside0 (thresherlaw16_kind.j3 kq a1 x5_1 x76_37 l0_0 a0_1 a1 ((rd_T26 l0_0 x5_1).f1) x352002_17 x352003_17 ((rd_T26 l0_0 x5_1).f4) = some r) ∧ Aside0 (kq ≤ kj17) ∧ Aside0 (wc.heap[gb346]? = some (.cells #[(.slice (some ad349) l0_0.length c0_0), .string a0_1] 24 (0, 0))) ∧ Aside0 (wc.heap[gb351]? = some (.cells #[.int .i64 a1, .int .i64 ((rd_T26 l0_0 x5_1).f1), .int .i64 x352002_17, .int .i64 x352003_17, .string ((rd_T26 l0_0 x5_1).f4)] 26 (0, 0))) ∧ Aside0 (Below w.heap.size w wc))
           case first =>
            have H := HC38.out
            clear HC38
            by_cases c39 : a1 = 4
            ·
             rw [if_pos c39] at H
             have c39b0 : (a1 == 4) = true := beq_iff_eq.mpr c39
             have c39b1 : (a1 != 4) = false := bne_eq_false_iff_eq.mpr c39
             clear c39
             (first | rw [c39b0] | (simp only [i64_w, i32_w]; rw [c39b0]) | skip)
             have H' := Aside0.mk H
             clear H
             go_wp2
             go_meet
             case rel => exact ⟨_, (true), (by first | rfl | (simp; done) | (simp [*]; done)), H', ⟨by have := HK1.out; have := HJ10.out; have := HJ17.out; first | omega | exact Nat.le_refl _⟩, ⟨by (with_reducible repeat (first | refine blk_drewN ?_ _ | refine blk_drew ?_ | refine blk_alloc ?_ _)); exact BK346.out⟩, ⟨by (with_reducible repeat (first | refine blk_drewN ?_ _ | refine blk_drew ?_ | refine blk_alloc ?_ _)); exact BK351.out⟩, ⟨by repeat (first | (with_reducible first | exact HB.out | apply below_alloc | apply pw_below_drewN | apply below_drew1 | refine below_set ?_ GE346.out | refine below_set ?_ GE351.out) | exact HB.out)⟩⟩
            ·
             rw [if_neg c39] at H
             have c39b0 : (a1 == 4) = false := beq_eq_false_iff_ne.mpr c39
             have c39b1 : (a1 != 4) = true := bne_iff_ne.mpr c39
             (first | rw [c39b0] | (simp only [i64_w, i32_w]; rw [c39b0]) | skip)
             by_cases c40 : a1 = 5
             ·
              rw [if_pos c40] at H
              have c40b0 : (a1 == 5) = true := beq_iff_eq.mpr c40
              have c40b1 : (a1 != 5) = false := bne_eq_false_iff_eq.mpr c40
              clear c40
              have H' := Aside0.mk H
              clear H
              go_wp2
              go_meet
              case rel => exact ⟨_, (true), (by first | rfl | (simp; done) | (simp [*]; done)), H', ⟨by have := HK1.out; have := HJ10.out; have := HJ17.out; first | omega | exact Nat.le_refl _⟩, ⟨by (with_reducible repeat (first | refine blk_drewN ?_ _ | refine blk_drew ?_ | refine blk_alloc ?_ _)); exact BK346.out⟩, ⟨by (with_reducible repeat (first | refine blk_drewN ?_ _ | refine blk_drew ?_ | refine blk_alloc ?_ _)); exact BK351.out⟩, ⟨by repeat (first | (with_reducible first | exact HB.out | apply below_alloc | apply pw_below_drewN | apply below_drew1 | refine below_set ?_ GE346.out | refine below_set ?_ GE351.out) | exact HB.out)⟩⟩
             ·
              rw [if_neg c40] at H
              have c40b0 : (a1 == 5) = false := beq_eq_false_iff_ne.mpr c40
              have c40b1 : (a1 != 5) = true := bne_iff_ne.mpr c40
              by_cases c41 : a1 = 3
              ·
               rw [if_pos c41] at H
               have c41b0 : (a1 == 3) = true := beq_iff_eq.mpr c41
               have c41b1 : (a1 != 3) = false := bne_eq_false_iff_eq.mpr c41
               clear c41
               have H' := Aside0.mk H
               clear H
               have hnb42 := NB351_346.out
               have hnc42 := NB346_351.out
               obtain ⟨hcz43_0, hcz43_1, hcz43_2, hcz43_3, hcz43_4⟩ := cells5 BK351.out
               have hfz43_0 := fun i_ => blk_frozen BK351.out i_
               go_wp2
               go_meet
               case rel => exact ⟨_, ((x352003_17 != 1)), (by first | rfl | (simp; done) | (simp [*]; done)), H', ⟨by have := HK1.out; have := HJ10.out; have := HJ17.out; first | omega | exact Nat.le_refl _⟩, ⟨by (with_reducible repeat (first | refine blk_drewN ?_ _ | refine blk_drew ?_ | refine blk_alloc ?_ _)); exact BK346.out⟩, ⟨by (with_reducible repeat (first | refine blk_drewN ?_ _ | refine blk_drew ?_ | refine blk_alloc ?_ _)); exact BK351.out⟩, ⟨by repeat (first | (with_reducible first | exact HB.out | apply below_alloc | apply pw_below_drewN | apply below_drew1 | refine below_set ?_ GE346.out | refine below_set ?_ GE351.out) | exact HB.out)⟩⟩
              ·
               rw [if_neg c41] at H
               have c41b0 : (a1 == 3) = false := beq_eq_false_iff_ne.mpr c41
               have c41b1 : (a1 != 3) = true := bne_iff_ne.mpr c41
               have H' := Aside0.mk H
               clear H
               go_wp2
               go_meet
               case rel => exact ⟨_, (false), (by first | rfl | (simp; done) | (simp [*]; done)), H', ⟨by have := HK1.out; have := HJ10.out; have := HJ17.out; first | omega | exact Nat.le_refl _⟩, ⟨by (with_reducible repeat (first | refine blk_drewN ?_ _ | refine blk_drew ?_ | refine blk_alloc ?_ _)); exact BK346.out⟩, ⟨by (with_reducible repeat (first | refine blk_drewN ?_ _ | refine blk_drew ?_ | refine blk_alloc ?_ _)); exact BK351.out⟩, ⟨by repeat (first | (with_reducible first | exact HB.out | apply below_alloc | apply pw_below_drewN | apply below_drew1 | refine below_set ?_ GE346.out | refine below_set ?_ GE351.out) | exact HB.out)⟩⟩
           case rest =>
            clear HC38
            (try clear c1); (try clear c2); (try clear p2); (try clear c3); (try clear p3); (try clear q3); (try clear hx3); (try clear c4); (try clear c12); (try clear c12b0); (try clear c15); (try clear c16); (try clear c16b0); (try clear c17); (try clear c17b0); (try clear c26); (try clear c26b0); (try clear c26b1); (try clear c27); (try clear c30); (try clear c30b0); (try clear c30b1); (try clear c31); (try clear c32); (try clear c34); (try clear c34b0); (try clear c34b1); (try clear p34); (try clear q34); (try clear hx34); (try clear c35); (try clear p35); (try clear q35); (try clear hx35); (try clear c39); (try clear c39b0); (try clear c39b1); (try clear c40); (try clear c40b0); (try clear c40b1); (try clear c41); (try clear c41b0); (try clear c41b1); (try clear c42); (try clear hcz13_0); (try clear hcz13_1); (try clear hcz14_0); (try clear hcz14_1); (try clear hcz28_0); (try clear hcz28_1); (try clear hcz29_0); (try clear hcz29_1); (try clear hcz29_2); (try clear hcz29_3); (try clear hcz29_4); (try clear hcz32_0); (try clear hcz32_1); (try clear hcz33_0); (try clear hcz33_1); (try clear hcz33_2); (try clear hcz33_3); (try clear hcz33_4); (try clear hcz36_0); (try clear hcz36_1); (try clear hcz37_0); (try clear hcz37_1); (try clear hcz37_2); (try clear hcz37_3); (try clear hcz37_4); (try clear hcz43_0); (try clear hcz43_1); (try clear hcz43_2); (try clear hcz43_3); (try clear hcz43_4); (try clear hcz6_0); (try clear hcz6_1); (try clear hcz9_0); (try clear hcz9_1); (try clear hfz13_0); (try clear hfz14_0); (try clear hfz28_0); (try clear hfz29_0); (try clear hfz32_0); (try clear hfz33_0); (try clear hfz36_0); (try clear hfz37_0); (try clear hfz43_0); (try clear hfz6_0); (try clear hfz9_0); (try clear hx349_0); (try clear hx349_1); (try clear hx349_2); (try clear hx349_3); (try clear hx349_4); (try clear hx350_0); (try clear hx350_1); (try clear hx350_2); (try clear hx350_3); (try clear hx350_4); (try clear hx352_0); (try clear hx352_1); (try clear hx352_2); (try clear hx352_3); (try clear hx352_4); (try clear hx353_0); (try clear hx353_1); (try clear hx353_2); (try clear hx353_3); (try clear hx353_4); (try clear hx354_0); (try clear hx354_1); (try clear hx354_2); (try clear hx354_3); (try clear hx354_4); (try clear p2); (try clear p3); (try clear p34); (try clear p349); (try clear p35); (try clear p350); (try clear p352); (try clear p353); (try clear p354); (try clear q3); (try clear q34); (try clear q349); (try clear q35); (try clear q350); (try clear q352); (try clear q353); (try clear q354)
            obtain ⟨kq, x76_37, rfl, HA, HJ37, BK346, BK351, HB⟩ := hcut
            cases kq with
            | zero => exact absurd HA.out (by simp [thresherlaw16_kind.j3])
            | succ kj37 =>
             have H := HA.out
             clear HA
             simp only [thresherlaw16_kind.j3] at H
             have HC44 := Aside0.mk H
             clear H
             go_upto_if 76 with (fail)
             go_cut [] (fun wc => ∃ (kq : Nat) (x352004_43 : ByteArray), Aside0 (thresherlaw16_kind.j4 kq a1 x5_1 l0_0 a0_1 a1 ((rd_T26 l0_0 x5_1).f1) x352002_17 x352003_17 x352004_43 = some r) ∧ Aside0 (kq ≤ kj37) ∧ Aside0 (wc.heap[gb346]? = some (.cells #[(.slice (some ad349) l0_0.length c0_0), .string a0_1] 24 (0, 0))) ∧ Aside0 (wc.heap[gb351]? = some (.cells #[.int .i64 a1, .int .i64 ((rd_T26 l0_0 x5_1).f1), .int .i64 x352002_17, .int .i64 x352003_17, .string x352004_43] 26 (0, 0))) ∧ Aside0 (Below w.heap.size w wc))
             case first =>
              have H := HC44.out
              clear HC44
              by_cases c45 : x76_37 = true
              ·
               subst c45
               have H1 : (thresherlaw16_kind.j4 kj37 a1 x5_1 l0_0 a0_1 a1 ((rd_T26 l0_0 x5_1).f1) x352002_17 x352003_17 (⟨#[]⟩ : ByteArray)) = some r := by rw [if_pos rfl] at H; exact H
               clear H
               have H := H1
               clear H1
               have H' := Aside0.mk H
               clear H
               have hnb46 := NB351_346.out
               have hnc46 := NB346_351.out
               obtain ⟨hcz47_0, hcz47_1, hcz47_2, hcz47_3, hcz47_4⟩ := cells5 BK351.out
               have hfz47_0 := fun i_ => blk_frozen BK351.out i_
               go_wp2
               go_meet
               case rel => exact ⟨_, ((⟨#[]⟩ : ByteArray)), H', ⟨by have := HK1.out; have := HJ10.out; have := HJ17.out; have := HJ37.out; first | omega | exact Nat.le_refl _⟩, ⟨by (with_reducible repeat (first | refine blk_drewN ?_ _ | refine blk_drew ?_ | refine blk_alloc ?_ _)); refine blk_far ?_ NB346_351.out _; (with_reducible repeat (first | refine blk_drewN ?_ _ | refine blk_drew ?_ | refine blk_alloc ?_ _)); exact BK346.out⟩, ⟨by (with_reducible repeat (first | refine blk_drewN ?_ _ | refine blk_drew ?_ | refine blk_alloc ?_ _)); refine blk_put (cs := #[.int .i64 a1, .int .i64 ((rd_T26 l0_0 x5_1).f1), .int .i64 x352002_17, .int .i64 x352003_17, .string ((rd_T26 l0_0 x5_1).f4)]) ?_ 4 _ rfl; (with_reducible repeat (first | refine blk_drewN ?_ _ | refine blk_drew ?_ | refine blk_alloc ?_ _)); exact BK351.out⟩, ⟨by repeat (first | (with_reducible first | exact HB.out | apply below_alloc | apply pw_below_drewN | apply below_drew1 | refine below_set ?_ GE346.out | refine below_set ?_ GE351.out) | exact HB.out)⟩⟩
              ·
               replace c45 := Bool.eq_false_iff.mpr c45
               subst c45
               have H1 : (thresherlaw16_kind.j4 kj37 a1 x5_1 l0_0 a0_1 a1 ((rd_T26 l0_0 x5_1).f1) x352002_17 x352003_17 ((rd_T26 l0_0 x5_1).f4)) = some r := by rw [if_neg (show ¬ (false = true) by decide)] at H; exact H
               clear H
               have H := H1
               clear H1
               have H' := Aside0.mk H
               clear H
               go_wp2
               go_meet
               case rel => exact ⟨_, (((rd_T26 l0_0 x5_1).f4)), H', ⟨by have := HK1.out; have := HJ10.out; have := HJ17.out; have := HJ37.out; first | omega | exact Nat.le_refl _⟩, ⟨by (with_reducible repeat (first | refine blk_drewN ?_ _ | refine blk_drew ?_ | refine blk_alloc ?_ _)); exact BK346.out⟩, ⟨by (with_reducible repeat (first | refine blk_drewN ?_ _ | refine blk_drew ?_ | refine blk_alloc ?_ _)); exact BK351.out⟩, ⟨by repeat (first | (with_reducible first | exact HB.out | apply below_alloc | apply pw_below_drewN | apply below_drew1 | refine below_set ?_ GE346.out | refine below_set ?_ GE351.out) | exact HB.out)⟩⟩
             case rest =>
              clear HC44
              (try clear c1); (try clear c2); (try clear p2); (try clear c3); (try clear p3); (try clear q3); (try clear hx3); (try clear c4); (try clear c12); (try clear c12b0); (try clear c15); (try clear c16); (try clear c16b0); (try clear c17); (try clear c17b0); (try clear c26); (try clear c26b0); (try clear c26b1); (try clear c27); (try clear c30); (try clear c30b0); (try clear c30b1); (try clear c31); (try clear c32); (try clear c34); (try clear c34b0); (try clear c34b1); (try clear p34); (try clear q34); (try clear hx34); (try clear c35); (try clear p35); (try clear q35); (try clear hx35); (try clear c39); (try clear c39b0); (try clear c39b1); (try clear c40); (try clear c40b0); (try clear c40b1); (try clear c41); (try clear c41b0); (try clear c41b1); (try clear c42); (try clear c45); (try clear c46); (try clear hcz13_0); (try clear hcz13_1); (try clear hcz14_0); (try clear hcz14_1); (try clear hcz28_0); (try clear hcz28_1); (try clear hcz29_0); (try clear hcz29_1); (try clear hcz29_2); (try clear hcz29_3); (try clear hcz29_4); (try clear hcz32_0); (try clear hcz32_1); (try clear hcz33_0); (try clear hcz33_1); (try clear hcz33_2); (try clear hcz33_3); (try clear hcz33_4); (try clear hcz36_0); (try clear hcz36_1); (try clear hcz37_0); (try clear hcz37_1); (try clear hcz37_2); (try clear hcz37_3); (try clear hcz37_4); (try clear hcz43_0); (try clear hcz43_1); (try clear hcz43_2); (try clear hcz43_3); (try clear hcz43_4); (try clear hcz47_0); (try clear hcz47_1); (try clear hcz47_2); (try clear hcz47_3); (try clear hcz47_4); (try clear hcz6_0); (try clear hcz6_1); (try clear hcz9_0); (try clear hcz9_1); (try clear hfz13_0); (try clear hfz14_0); (try clear hfz28_0); (try clear hfz29_0); (try clear hfz32_0); (try clear hfz33_0); (try clear hfz36_0); (try clear hfz37_0); (try clear hfz43_0); (try clear hfz47_0); (try clear hfz6_0); (try clear hfz9_0); (try clear hx349_0); (try clear hx349_1); (try clear hx349_2); (try clear hx349_3); (try clear hx349_4); (try clear hx350_0); (try clear hx350_1); (try clear hx350_2); (try clear hx350_3); (try clear hx350_4); (try clear hx352_0); (try clear hx352_1); (try clear hx352_2); (try clear hx352_3); (try clear hx352_4); (try clear hx353_0); (try clear hx353_1); (try clear hx353_2); (try clear hx353_3); (try clear hx353_4); (try clear hx354_0); (try clear hx354_1); (try clear hx354_2); (try clear hx354_3); (try clear hx354_4); (try clear p2); (try clear p3); (try clear p34); (try clear p349); (try clear p35); (try clear p350); (try clear p352); (try clear p353); (try clear p354); (try clear q3); (try clear q34); (try clear q349); (try clear q35); (try clear q350); (try clear q352); (try clear q353); (try clear q354)
              obtain ⟨kq, x352004_43, HA, HJ43, BK346, BK351, HB⟩ := hcut
              cases kq with
              | zero => exact absurd HA.out (by simp [thresherlaw16_kind.j4])
              | succ kj43 =>
               have H := HA.out
               clear HA
               simp only [thresherlaw16_kind.j4] at H
               replace H := Option.bind_eq_some_iff.mp H
               obtain ⟨⟨t355, t356⟩, A480, H⟩ := H
               replace H : ((thresherref15_Entry.f kj43 a1 ((rd_T26 l0_0 x5_1).f1) x352002_17 x352003_17 x352004_43).bind fun t357 => (if t357 = true then ((thresherref15_EntBytes.f kj43 a1 ((rd_T26 l0_0 x5_1).f1) x352002_17 x352003_17 x352004_43).bind fun t358 => (thresherlaw16_kind.j5 kj43 a1 x5_1 t355 t356 0 t358 l0_0 a0_1)) else (thresherlaw16_kind.j5 kj43 a1 x5_1 t355 t356 1 (⟨#[]⟩ : ByteArray) l0_0 a0_1))) = some r := H
               have A48 := Aside0.mk A480
               clear A480
               replace H := Option.bind_eq_some_iff.mp H
               obtain ⟨t357, A490, H⟩ := H
               replace H : (if t357 = true then ((thresherref15_EntBytes.f kj43 a1 ((rd_T26 l0_0 x5_1).f1) x352002_17 x352003_17 x352004_43).bind fun t358 => (thresherlaw16_kind.j5 kj43 a1 x5_1 t355 t356 0 t358 l0_0 a0_1)) else (thresherlaw16_kind.j5 kj43 a1 x5_1 t355 t356 1 (⟨#[]⟩ : ByteArray) l0_0 a0_1)) = some r := H
               have A49 := Aside0.mk A490
               clear A490
               have HC50 := Aside0.mk H
               clear H
               have hnb51 := NB351_346.out
               have hnc51 := NB346_351.out
               obtain ⟨hcz52_0, hcz52_1, hcz52_2, hcz52_3, hcz52_4⟩ := cells5 BK351.out
               have hfz52_0 := fun i_ => blk_frozen BK351.out i_
               go_upto_if 84 with (first | ((with_reducible refine gate_callee (f := 27) rfl ?_); refine goesL_ (some 80) rfl rfl Try.func27 (by kernel_rfl) rfl #[.agg #[.int .i64 a1, .int .i64 ((rd_T26 l0_0 x5_1).f1), .int .i64 x352002_17, .int .i64 x352003_17, .string x352004_43]] rfl (by (try simp only [List.map_toArray, List.map_cons, List.map_nil]); first | done | rfl | (simp only [List.length_drop, List.length_take]; rfl)) ?_; (with_reducible refine (ent_Bytes.calls kj43 a1 ((rd_T26 l0_0 x5_1).f1) x352002_17 x352003_17 x352004_43 t355 t356 _ A48.out).mono ?_); rintro e w53 ⟨rfl, hb⟩; refine ⟨_, rfl, ?_⟩; have n0_ := Aside0.mk (blk_below (g := gb346) (o := .cells #[.slice (some ad349) l0_0.length c0_0, .string a0_1] 24 (0, 0)) (by (with_reducible repeat (first | refine blk_drewN ?_ _ | refine blk_drew ?_ | refine blk_alloc ?_ _)); exact BK346.out) hb); have n1_ := Aside0.mk (blk_below (g := gb351) (o := .cells #[.int .i64 a1, .int .i64 ((rd_T26 l0_0 x5_1).f1), .int .i64 x352002_17, .int .i64 x352003_17, .string x352004_43] 26 (0, 0)) (by (with_reducible repeat (first | refine blk_drewN ?_ _ | refine blk_drew ?_ | refine blk_alloc ?_ _)); exact BK351.out) hb); have n2_ := Aside0.mk (below_step (by repeat (first | (with_reducible first | exact HB.out | apply below_alloc | apply pw_below_drewN | apply below_drew1 | refine below_set ?_ GE346.out | refine below_set ?_ GE351.out) | exact HB.out)) hb); clear BK346; clear BK351; clear HB; have BK346 := n0_; have BK351 := n1_; have HB := n2_; clear n0_ n1_ n2_; (try clear hb); (try clear hb2); (try clear hk); (try clear hi); obtain ⟨hcz54_0, hcz54_1, hcz54_2, hcz54_3, hcz54_4⟩ := cells5 BK351.out; have hfz54_0 := fun i_ => blk_frozen BK351.out i_) | ((with_reducible refine gate_callee (f := 28) rfl ?_); refine goesL_ (some 84) rfl rfl Try.func28 (by kernel_rfl) rfl #[.agg #[.int .i64 a1, .int .i64 ((rd_T26 l0_0 x5_1).f1), .int .i64 x352002_17, .int .i64 x352003_17, .string x352004_43]] rfl (by (try simp only [List.map_toArray, List.map_cons, List.map_nil]); first | done | rfl | (simp only [List.length_drop, List.length_take]; rfl)) ?_; (with_reducible refine (thresherref15_Entry.calls kj43 a1 ((rd_T26 l0_0 x5_1).f1) x352002_17 x352003_17 x352004_43 t357 _ A49.out).mono ?_); rintro e w55 ⟨rfl, hb⟩; refine ⟨_, rfl, ?_⟩; have n0_ := Aside0.mk (blk_below (g := gb346) (o := .cells #[.slice (some ad349) l0_0.length c0_0, .string a0_1] 24 (0, 0)) (by (with_reducible repeat (first | refine blk_drewN ?_ _ | refine blk_drew ?_ | refine blk_alloc ?_ _)); exact BK346.out) hb); have n1_ := Aside0.mk (blk_below (g := gb351) (o := .cells #[.int .i64 a1, .int .i64 ((rd_T26 l0_0 x5_1).f1), .int .i64 x352002_17, .int .i64 x352003_17, .string x352004_43] 26 (0, 0)) (by (with_reducible repeat (first | refine blk_drewN ?_ _ | refine blk_drew ?_ | refine blk_alloc ?_ _)); exact BK351.out) hb); have n2_ := Aside0.mk (below_step (by repeat (first | (with_reducible first | exact HB.out | apply below_alloc | apply pw_below_drewN | apply below_drew1 | refine below_set ?_ GE346.out | refine below_set ?_ GE351.out) | exact HB.out)) hb); clear BK346; clear BK351; clear HB; have BK346 := n0_; have BK351 := n1_; have HB := n2_; clear n0_ n1_ n2_; (try clear hb); (try clear hb2); (try clear hk); (try clear hi)))
               (try simp only [Act.put, List.setIfInBounds_toArray, List.set_cons_zero, List.set_cons_succ])
               go_cut [9, 10] (fun v9 v10 wc => ∃ (kq : Nat) (x9_49 : Int) (x10_49 : ByteArray), v9 = .int .i64 x9_49 ∧ v10 = .string x10_49 ∧ Aside0 (thresherlaw16_kind.j5 kq a1 x5_1 t355 t356 x9_49 x10_49 l0_0 a0_1 = some r) ∧ Aside0 (kq ≤ kj43) ∧ Aside0 (wc.heap[gb346]? = some (.cells #[(.slice (some ad349) l0_0.length c0_0), .string a0_1] 24 (0, 0))) ∧ Aside0 (wc.heap[gb351]? = some (.cells #[.int .i64 a1, .int .i64 ((rd_T26 l0_0 x5_1).f1), .int .i64 x352002_17, .int .i64 x352003_17, .string x352004_43] 26 (0, 0))) ∧ Aside0 (Below w.heap.size w wc))
               case first =>
                have H := HC50.out
                clear HC50
                by_cases c56 : t357 = true
                ·
                 subst c56
                 have H1 : ((thresherref15_EntBytes.f kj43 a1 ((rd_T26 l0_0 x5_1).f1) x352002_17 x352003_17 x352004_43).bind fun t358 => (thresherlaw16_kind.j5 kj43 a1 x5_1 t355 t356 0 t358 l0_0 a0_1)) = some r := by rw [if_pos rfl] at H; exact H
                 clear H
                 have H := H1
                 clear H1
                 replace H := Option.bind_eq_some_iff.mp H
                 obtain ⟨t358, A570, H⟩ := H
                 replace H : (thresherlaw16_kind.j5 kj43 a1 x5_1 t355 t356 0 t358 l0_0 a0_1) = some r := H
                 have A57 := Aside0.mk A570
                 clear A570
                 have H' := Aside0.mk H
                 clear H
                 have hnb58 := NB351_346.out
                 have hnc58 := NB346_351.out
                 obtain ⟨hcz59_0, hcz59_1, hcz59_2, hcz59_3, hcz59_4⟩ := cells5 BK351.out
                 have hfz59_0 := fun i_ => blk_frozen BK351.out i_
                 go_wp2_with (first | ((with_reducible refine gate_callee (f := 29) rfl ?_); refine goesL_ (some 86) rfl rfl Try.func29 (by kernel_rfl) rfl #[.agg #[.int .i64 a1, .int .i64 ((rd_T26 l0_0 x5_1).f1), .int .i64 x352002_17, .int .i64 x352003_17, .string x352004_43]] rfl (by (try simp only [List.map_toArray, List.map_cons, List.map_nil]); first | done | rfl | (simp only [List.length_drop, List.length_take]; rfl)) ?_; (with_reducible refine (thresherref15_EntBytes.calls kj43 a1 ((rd_T26 l0_0 x5_1).f1) x352002_17 x352003_17 x352004_43 t358 _ A57.out).mono ?_); rintro e w60 ⟨rfl, hb⟩; refine ⟨_, rfl, ?_⟩; have n0_ := Aside0.mk (blk_below (g := gb346) (o := .cells #[.slice (some ad349) l0_0.length c0_0, .string a0_1] 24 (0, 0)) (by (with_reducible repeat (first | refine blk_drewN ?_ _ | refine blk_drew ?_ | refine blk_alloc ?_ _)); exact BK346.out) hb); have n1_ := Aside0.mk (blk_below (g := gb351) (o := .cells #[.int .i64 a1, .int .i64 ((rd_T26 l0_0 x5_1).f1), .int .i64 x352002_17, .int .i64 x352003_17, .string x352004_43] 26 (0, 0)) (by (with_reducible repeat (first | refine blk_drewN ?_ _ | refine blk_drew ?_ | refine blk_alloc ?_ _)); exact BK351.out) hb); have n2_ := Aside0.mk (below_step (by repeat (first | (with_reducible first | exact HB.out | apply below_alloc | apply pw_below_drewN | apply below_drew1 | refine below_set ?_ GE346.out | refine below_set ?_ GE351.out) | exact HB.out)) hb); clear BK346; clear BK351; clear HB; have BK346 := n0_; have BK351 := n1_; have HB := n2_; clear n0_ n1_ n2_; (try clear hb); (try clear hb2); (try clear hk); (try clear hi)))
                 go_meet
                 case rel => exact ⟨_, (0), (t358), (by first | rfl | (simp; done) | (simp [*]; done)), (by first | rfl | (simp; done) | (simp [*]; done)), H', ⟨by have := HK1.out; have := HJ10.out; have := HJ17.out; have := HJ37.out; have := HJ43.out; first | omega | exact Nat.le_refl _⟩, ⟨by (with_reducible repeat (first | refine blk_drewN ?_ _ | refine blk_drew ?_ | refine blk_alloc ?_ _)); exact BK346.out⟩, ⟨by (with_reducible repeat (first | refine blk_drewN ?_ _ | refine blk_drew ?_ | refine blk_alloc ?_ _)); exact BK351.out⟩, ⟨by repeat (first | (with_reducible first | exact HB.out | apply below_alloc | apply pw_below_drewN | apply below_drew1 | refine below_set ?_ GE346.out | refine below_set ?_ GE351.out) | exact HB.out)⟩⟩
                ·
                 replace c56 := Bool.eq_false_iff.mpr c56
                 subst c56
                 have H1 : (thresherlaw16_kind.j5 kj43 a1 x5_1 t355 t356 1 (⟨#[]⟩ : ByteArray) l0_0 a0_1) = some r := by rw [if_neg (show ¬ (false = true) by decide)] at H; exact H
                 clear H
                 have H := H1
                 clear H1
                 have H' := Aside0.mk H
                 clear H
                 go_wp2
                 go_meet
                 case rel => exact ⟨_, (1), ((⟨#[]⟩ : ByteArray)), (by first | rfl | (simp; done) | (simp [*]; done)), (by first | rfl | (simp; done) | (simp [*]; done)), H', ⟨by have := HK1.out; have := HJ10.out; have := HJ17.out; have := HJ37.out; have := HJ43.out; first | omega | exact Nat.le_refl _⟩, ⟨by (with_reducible repeat (first | refine blk_drewN ?_ _ | refine blk_drew ?_ | refine blk_alloc ?_ _)); exact BK346.out⟩, ⟨by (with_reducible repeat (first | refine blk_drewN ?_ _ | refine blk_drew ?_ | refine blk_alloc ?_ _)); exact BK351.out⟩, ⟨by repeat (first | (with_reducible first | exact HB.out | apply below_alloc | apply pw_below_drewN | apply below_drew1 | refine below_set ?_ GE346.out | refine below_set ?_ GE351.out) | exact HB.out)⟩⟩
               case rest =>
                clear HC50
                (try clear c1); (try clear c2); (try clear p2); (try clear c3); (try clear p3); (try clear q3); (try clear hx3); (try clear c4); (try clear c5); (try clear c12); (try clear c12b0); (try clear c15); (try clear c16); (try clear c16b0); (try clear c17); (try clear c17b0); (try clear c26); (try clear c26b0); (try clear c26b1); (try clear c27); (try clear c28); (try clear c29); (try clear c30); (try clear c30b0); (try clear c30b1); (try clear c31); (try clear c32); (try clear c34); (try clear c34b0); (try clear c34b1); (try clear p34); (try clear q34); (try clear hx34); (try clear c35); (try clear p35); (try clear q35); (try clear hx35); (try clear c39); (try clear c39b0); (try clear c39b1); (try clear c40); (try clear c40b0); (try clear c40b1); (try clear c41); (try clear c41b0); (try clear c41b1); (try clear c42); (try clear c45); (try clear c46); (try clear c51); (try clear c56); (try clear c58); (try clear hcz13_0); (try clear hcz13_1); (try clear hcz14_0); (try clear hcz14_1); (try clear hcz28_0); (try clear hcz28_1); (try clear hcz29_0); (try clear hcz29_1); (try clear hcz29_2); (try clear hcz29_3); (try clear hcz29_4); (try clear hcz32_0); (try clear hcz32_1); (try clear hcz33_0); (try clear hcz33_1); (try clear hcz33_2); (try clear hcz33_3); (try clear hcz33_4); (try clear hcz36_0); (try clear hcz36_1); (try clear hcz37_0); (try clear hcz37_1); (try clear hcz37_2); (try clear hcz37_3); (try clear hcz37_4); (try clear hcz43_0); (try clear hcz43_1); (try clear hcz43_2); (try clear hcz43_3); (try clear hcz43_4); (try clear hcz47_0); (try clear hcz47_1); (try clear hcz47_2); (try clear hcz47_3); (try clear hcz47_4); (try clear hcz52_0); (try clear hcz52_1); (try clear hcz52_2); (try clear hcz52_3); (try clear hcz52_4); (try clear hcz54_0); (try clear hcz54_1); (try clear hcz54_2); (try clear hcz54_3); (try clear hcz54_4); (try clear hcz59_0); (try clear hcz59_1); (try clear hcz59_2); (try clear hcz59_3); (try clear hcz59_4); (try clear hcz6_0); (try clear hcz6_1); (try clear hcz9_0); (try clear hcz9_1); (try clear hfz13_0); (try clear hfz14_0); (try clear hfz28_0); (try clear hfz29_0); (try clear hfz32_0); (try clear hfz33_0); (try clear hfz36_0); (try clear hfz37_0); (try clear hfz43_0); (try clear hfz47_0); (try clear hfz52_0); (try clear hfz54_0); (try clear hfz59_0); (try clear hfz6_0); (try clear hfz9_0); (try clear hx349_0); (try clear hx349_1); (try clear hx349_2); (try clear hx349_3); (try clear hx349_4); (try clear hx350_0); (try clear hx350_1); (try clear hx350_2); (try clear hx350_3); (try clear hx350_4); (try clear hx352_0); (try clear hx352_1); (try clear hx352_2); (try clear hx352_3); (try clear hx352_4); (try clear hx353_0); (try clear hx353_1); (try clear hx353_2); (try clear hx353_3); (try clear hx353_4); (try clear hx354_0); (try clear hx354_1); (try clear hx354_2); (try clear hx354_3); (try clear hx354_4); (try clear p2); (try clear p3); (try clear p34); (try clear p349); (try clear p35); (try clear p350); (try clear p352); (try clear p353); (try clear p354); (try clear q3); (try clear q34); (try clear q349); (try clear q35); (try clear q350); (try clear q352); (try clear q353); (try clear q354)
                obtain ⟨kq, x9_49, x10_49, rfl, rfl, HA, HJ49, BK346, BK351, HB⟩ := hcut
                cases kq with
                | zero => exact absurd HA.out (by simp [thresherlaw16_kind.j5])
                | succ kj49 =>
                 have H := HA.out
                 clear HA
                 simp only [thresherlaw16_kind.j5] at H
                 have HC61 := Aside0.mk H
                 clear H
                 go_upto_region 19 with (fail)
                 go_cut [95] (fun v95 wc => ∃ (kq : Nat) (x95_60 : Bool), v95 = .bool x95_60 ∧ Aside0 (thresherlaw16_kind.j6 kq a1 x5_1 t355 x10_49 x95_60 l0_0 a0_1 = some r) ∧ Aside0 (kq ≤ kj49) ∧ Aside0 (wc.heap[gb346]? = some (.cells #[(.slice (some ad349) l0_0.length c0_0), .string a0_1] 24 (0, 0))) ∧ Aside0 (wc.heap[gb351]? = some (.cells #[.int .i64 a1, .int .i64 ((rd_T26 l0_0 x5_1).f1), .int .i64 x352002_17, .int .i64 x352003_17, .string x352004_43] 26 (0, 0))) ∧ Aside0 (Below w.heap.size w wc))
                 case first =>
                  have H := HC61.out
                  clear HC61
                  replace H := Option.bind_eq_some_iff.mp H
                  obtain ⟨t359, A620, H⟩ := H
                  replace H : (if t359 = x9_49 then (thresherlaw16_kind.j6 kj49 a1 x5_1 t355 x10_49 (t355.toList != x10_49.toList) l0_0 a0_1) else (thresherlaw16_kind.j6 kj49 a1 x5_1 t355 x10_49 true l0_0 a0_1)) = some r := H
                  have A62 := Aside0.mk A620
                  clear A620
                  by_cases c63 : t359 = x9_49
                  ·
                   rw [if_pos c63] at H
                   have c63b0 : (t359 == x9_49) = true := beq_iff_eq.mpr c63
                   have c63b1 : (t359 != x9_49) = false := bne_eq_false_iff_eq.mpr c63
                   clear c63
                   (first | rw [c63b0] | (simp only [i64_w, i32_w]; rw [c63b0]) | skip)
                   have H' := Aside0.mk H
                   clear H
                   go_wp2_with (first | ((with_reducible refine gate_callee (f := 12) rfl ?_); refine goesL_ (some 88) rfl rfl Try.func12 (by kernel_rfl) rfl #[.int .i64 t356] rfl (by (try simp only [List.map_toArray, List.map_cons, List.map_nil]); first | done | rfl | (simp only [List.length_drop, List.length_take]; rfl)) ?_; (with_reducible refine (thresherlaw16_num.calls t356 t359 _ A62.out).mono ?_); rintro e w' ⟨rfl, ⟨nd, rfl⟩⟩; refine ⟨_, rfl, ?_⟩))
                   go_meet
                   case rel => exact ⟨_, ((t355.toList != x10_49.toList)), (by first | rfl | (simp; done) | (simp [*]; done)), H', ⟨by have := HK1.out; have := HJ10.out; have := HJ17.out; have := HJ37.out; have := HJ43.out; have := HJ49.out; first | omega | exact Nat.le_refl _⟩, ⟨by (with_reducible repeat (first | refine blk_drewN ?_ _ | refine blk_drew ?_ | refine blk_alloc ?_ _)); exact BK346.out⟩, ⟨by (with_reducible repeat (first | refine blk_drewN ?_ _ | refine blk_drew ?_ | refine blk_alloc ?_ _)); exact BK351.out⟩, ⟨by repeat (first | (with_reducible first | exact HB.out | apply below_alloc | apply pw_below_drewN | apply below_drew1 | refine below_set ?_ GE346.out | refine below_set ?_ GE351.out) | exact HB.out)⟩⟩
                  ·
                   rw [if_neg c63] at H
                   have c63b0 : (t359 == x9_49) = false := beq_eq_false_iff_ne.mpr c63
                   have c63b1 : (t359 != x9_49) = true := bne_iff_ne.mpr c63
                   (first | rw [c63b0] | (simp only [i64_w, i32_w]; rw [c63b0]) | skip)
                   have H' := Aside0.mk H
                   clear H
                   go_wp2_with (first | ((with_reducible refine gate_callee (f := 12) rfl ?_); refine goesL_ (some 88) rfl rfl Try.func12 (by kernel_rfl) rfl #[.int .i64 t356] rfl (by (try simp only [List.map_toArray, List.map_cons, List.map_nil]); first | done | rfl | (simp only [List.length_drop, List.length_take]; rfl)) ?_; (with_reducible refine (thresherlaw16_num.calls t356 t359 _ A62.out).mono ?_); rintro e w' ⟨rfl, ⟨nd, rfl⟩⟩; refine ⟨_, rfl, ?_⟩))
                   go_meet
                   case rel => exact ⟨_, (true), (by first | rfl | (simp; done) | (simp [*]; done)), H', ⟨by have := HK1.out; have := HJ10.out; have := HJ17.out; have := HJ37.out; have := HJ43.out; have := HJ49.out; first | omega | exact Nat.le_refl _⟩, ⟨by (with_reducible repeat (first | refine blk_drewN ?_ _ | refine blk_drew ?_ | refine blk_alloc ?_ _)); exact BK346.out⟩, ⟨by (with_reducible repeat (first | refine blk_drewN ?_ _ | refine blk_drew ?_ | refine blk_alloc ?_ _)); exact BK351.out⟩, ⟨by repeat (first | (with_reducible first | exact HB.out | apply below_alloc | apply pw_below_drewN | apply below_drew1 | refine below_set ?_ GE346.out | refine below_set ?_ GE351.out) | exact HB.out)⟩⟩
                 case rest =>
                  clear HC61
                  (try clear c1); (try clear c2); (try clear p2); (try clear c3); (try clear p3); (try clear q3); (try clear hx3); (try clear c4); (try clear c5); (try clear c6); (try clear c12); (try clear c12b0); (try clear c15); (try clear c16); (try clear c16b0); (try clear c17); (try clear c17b0); (try clear c26); (try clear c26b0); (try clear c26b1); (try clear c27); (try clear c28); (try clear c29); (try clear c30); (try clear c30b0); (try clear c30b1); (try clear c31); (try clear c32); (try clear c34); (try clear c34b0); (try clear c34b1); (try clear p34); (try clear q34); (try clear hx34); (try clear c35); (try clear p35); (try clear q35); (try clear hx35); (try clear c39); (try clear c39b0); (try clear c39b1); (try clear c40); (try clear c40b0); (try clear c40b1); (try clear c41); (try clear c41b0); (try clear c41b1); (try clear c42); (try clear c45); (try clear c46); (try clear c51); (try clear c56); (try clear c58); (try clear c63); (try clear c63b0); (try clear c63b1); (try clear hcz13_0); (try clear hcz13_1); (try clear hcz14_0); (try clear hcz14_1); (try clear hcz28_0); (try clear hcz28_1); (try clear hcz29_0); (try clear hcz29_1); (try clear hcz29_2); (try clear hcz29_3); (try clear hcz29_4); (try clear hcz32_0); (try clear hcz32_1); (try clear hcz33_0); (try clear hcz33_1); (try clear hcz33_2); (try clear hcz33_3); (try clear hcz33_4); (try clear hcz36_0); (try clear hcz36_1); (try clear hcz37_0); (try clear hcz37_1); (try clear hcz37_2); (try clear hcz37_3); (try clear hcz37_4); (try clear hcz43_0); (try clear hcz43_1); (try clear hcz43_2); (try clear hcz43_3); (try clear hcz43_4); (try clear hcz47_0); (try clear hcz47_1); (try clear hcz47_2); (try clear hcz47_3); (try clear hcz47_4); (try clear hcz52_0); (try clear hcz52_1); (try clear hcz52_2); (try clear hcz52_3); (try clear hcz52_4); (try clear hcz54_0); (try clear hcz54_1); (try clear hcz54_2); (try clear hcz54_3); (try clear hcz54_4); (try clear hcz59_0); (try clear hcz59_1); (try clear hcz59_2); (try clear hcz59_3); (try clear hcz59_4); (try clear hcz6_0); (try clear hcz6_1); (try clear hcz9_0); (try clear hcz9_1); (try clear hfz13_0); (try clear hfz14_0); (try clear hfz28_0); (try clear hfz29_0); (try clear hfz32_0); (try clear hfz33_0); (try clear hfz36_0); (try clear hfz37_0); (try clear hfz43_0); (try clear hfz47_0); (try clear hfz52_0); (try clear hfz54_0); (try clear hfz59_0); (try clear hfz6_0); (try clear hfz9_0); (try clear hx349_0); (try clear hx349_1); (try clear hx349_2); (try clear hx349_3); (try clear hx349_4); (try clear hx350_0); (try clear hx350_1); (try clear hx350_2); (try clear hx350_3); (try clear hx350_4); (try clear hx352_0); (try clear hx352_1); (try clear hx352_2); (try clear hx352_3); (try clear hx352_4); (try clear hx353_0); (try clear hx353_1); (try clear hx353_2); (try clear hx353_3); (try clear hx353_4); (try clear hx354_0); (try clear hx354_1); (try clear hx354_2); (try clear hx354_3); (try clear hx354_4); (try clear p2); (try clear p3); (try clear p34); (try clear p349); (try clear p35); (try clear p350); (try clear p352); (try clear p353); (try clear p354); (try clear q3); (try clear q34); (try clear q349); (try clear q35); (try clear q350); (try clear q352); (try clear q353); (try clear q354)
                  obtain ⟨kq, x95_60, rfl, HA, HJ60, BK346, BK351, HB⟩ := hcut
                  cases kq with
                  | zero => exact absurd HA.out (by simp [thresherlaw16_kind.j6])
                  | succ kj60 =>
                   have H := HA.out
                   clear HA
                   simp only [thresherlaw16_kind.j6] at H
                   by_cases c64 : x95_60 = true
                   ·
                    subst c64
                    have H1 : (some false) = some r := by rw [if_pos rfl] at H; exact H
                    clear H
                    have H := H1
                    clear H1
                    obtain rfl := Option.some.inj H
                    go_wp2
                    go_ret
                    exact ⟨by first | rfl | (simp [errW_none, errW_some] <;> rfl) | (simp [*, errW_none, errW_some] <;> rfl), by repeat (first | (with_reducible first | exact HB.out | apply below_alloc | apply pw_below_drewN | apply below_drew1 | refine below_set ?_ GE346.out | refine below_set ?_ GE351.out) | exact HB.out)⟩
                   ·
                    replace c64 := Bool.eq_false_iff.mpr c64
                    subst c64
                    have H1 : ((ent_Take.f kj60 t355).bind fun bt360 => ((thresherref15_TakeEnt.f kj60 x10_49).bind fun bt367 => ((thresherlaw16_num.f bt360.2.2.2.2.2).bind fun t374 => (if t374 = bt367.2.2.2.2.2 then (if (!(bt360.1 == bt367.1) || (!(bt360.2.1 == bt367.2.1) || (!(bt360.2.2.1 == bt367.2.2.1) || (!(bt360.2.2.2.1 == bt367.2.2.2.1) || (!(bt360.2.2.2.2.1.toList == bt367.2.2.2.2.1.toList)))))) = true then (some false) else (thresherlaw16_kind.l0 kj60 a1 (wrap64 (x5_1 + 1)) l0_0 a0_1)) else (some false))))) = some r := by rw [if_neg (show ¬ (false = true) by decide)] at H; exact H
                    clear H
                    have H := H1
                    clear H1
                    replace H := Option.bind_eq_some_iff.mp H
                    obtain ⟨⟨t360, t361, t362, t363, t364, t365⟩, A650, H⟩ := H
                    replace H : ((thresherref15_TakeEnt.f kj60 x10_49).bind fun bt367 => ((thresherlaw16_num.f t365).bind fun t374 => (if t374 = bt367.2.2.2.2.2 then (if (!(t360 == bt367.1) || (!(t361 == bt367.2.1) || (!(t362 == bt367.2.2.1) || (!(t363 == bt367.2.2.2.1) || (!(t364.toList == bt367.2.2.2.2.1.toList)))))) = true then (some false) else (thresherlaw16_kind.l0 kj60 a1 (wrap64 (x5_1 + 1)) l0_0 a0_1)) else (some false)))) = some r := H
                    have A65 := Aside0.mk A650
                    clear A650
                    replace H := Option.bind_eq_some_iff.mp H
                    obtain ⟨⟨t367, t368, t369, t370, t371, t372⟩, A660, H⟩ := H
                    replace H : ((thresherlaw16_num.f t365).bind fun t374 => (if t374 = t372 then (if (!(t360 == t367) || (!(t361 == t368) || (!(t362 == t369) || (!(t363 == t370) || (!(t364.toList == t371.toList)))))) = true then (some false) else (thresherlaw16_kind.l0 kj60 a1 (wrap64 (x5_1 + 1)) l0_0 a0_1)) else (some false))) = some r := H
                    have A66 := Aside0.mk A660
                    clear A660
                    replace H := Option.bind_eq_some_iff.mp H
                    obtain ⟨t374, A670, H⟩ := H
                    replace H : (if t374 = t372 then (if (!(t360 == t367) || (!(t361 == t368) || (!(t362 == t369) || (!(t363 == t370) || (!(t364.toList == t371.toList)))))) = true then (some false) else (thresherlaw16_kind.l0 kj60 a1 (wrap64 (x5_1 + 1)) l0_0 a0_1)) else (some false)) = some r := H
                    have A67 := Aside0.mk A670
                    clear A670
                    by_cases c68 : t374 = t372
                    ·
                     rw [if_pos c68] at H
                     have c68b0 : (t374 == t372) = true := beq_iff_eq.mpr c68
                     have c68b1 : (t374 != t372) = false := bne_eq_false_iff_eq.mpr c68
                     clear c68
                     by_cases c69 : (!(t360 == t367) || (!(t361 == t368) || (!(t362 == t369) || (!(t363 == t370) || (!(t364.toList == t371.toList)))))) = true
                     ·
                      rw [if_pos c69] at H
                      have c69b0 : (!(t360 == t367) || (!(t361 == t368) || (!(t362 == t369) || (!(t363 == t370) || (!(t364.toList == t371.toList)))))) = true := c69
                      clear c69
                      obtain rfl := Option.some.inj H
                      go_wp2_with (first | ((with_reducible refine gate_callee (f := 30) rfl ?_); refine goesL_ (some 98) rfl rfl Try.func30 (by kernel_rfl) rfl #[.string t355] rfl (by (try simp only [List.map_toArray, List.map_cons, List.map_nil]); first | done | rfl | (simp only [List.length_drop, List.length_take]; rfl)) ?_; (with_reducible refine (ent_Take.calls kj60 t355 t360 t361 t362 t363 t364 t365 _ A65.out).mono ?_); rintro e w70 ⟨rfl, hb⟩; refine ⟨_, rfl, ?_⟩; have n0_ := Aside0.mk (blk_below (g := gb346) (o := .cells #[.slice (some ad349) l0_0.length c0_0, .string a0_1] 24 (0, 0)) (by (with_reducible repeat (first | refine blk_drewN ?_ _ | refine blk_drew ?_ | refine blk_alloc ?_ _)); exact BK346.out) hb); have n1_ := Aside0.mk (blk_below (g := gb351) (o := .cells #[.int .i64 a1, .int .i64 ((rd_T26 l0_0 x5_1).f1), .int .i64 x352002_17, .int .i64 x352003_17, .string x352004_43] 26 (0, 0)) (by (with_reducible repeat (first | refine blk_drewN ?_ _ | refine blk_drew ?_ | refine blk_alloc ?_ _)); exact BK351.out) hb); have n2_ := Aside0.mk (below_step (by repeat (first | (with_reducible first | exact HB.out | apply below_alloc | apply pw_below_drewN | apply below_drew1 | refine below_set ?_ GE346.out | refine below_set ?_ GE351.out) | exact HB.out)) hb); clear BK346; clear BK351; clear HB; have BK346 := n0_; have BK351 := n1_; have HB := n2_; clear n0_ n1_ n2_; (try clear hb); (try clear hb2); (try clear hk); (try clear hi)) | ((with_reducible refine gate_dst (N := 11) rfl ?_); refine box_event ?hg (N := 11) ?hd (cs := #[.int .i64 0, .int .i64 0, .int .i64 0, .int .i64 0, .string (⟨#[]⟩ : ByteArray)]) (t := 26) ?hr ?_; (case hd => rfl); (case hg => rfl); (case hr => first | (go_simp; done) | (go_simp; rfl)); intro gb366 hg w71 hbox hb; have n0_ := Aside0.mk (blk_below (g := gb346) (o := .cells #[.slice (some ad349) l0_0.length c0_0, .string a0_1] 24 (0, 0)) (by (with_reducible repeat (first | refine blk_drewN ?_ _ | refine blk_drew ?_ | refine blk_alloc ?_ _)); exact BK346.out) hb); have n1_ := Aside0.mk (blk_below (g := gb351) (o := .cells #[.int .i64 a1, .int .i64 ((rd_T26 l0_0 x5_1).f1), .int .i64 x352002_17, .int .i64 x352003_17, .string x352004_43] 26 (0, 0)) (by (with_reducible repeat (first | refine blk_drewN ?_ _ | refine blk_drew ?_ | refine blk_alloc ?_ _)); exact BK351.out) hb); have n2_ := Aside0.mk (below_step (by repeat (first | (with_reducible first | exact HB.out | apply below_alloc | apply pw_below_drewN | apply below_drew1 | refine below_set ?_ GE346.out | refine below_set ?_ GE351.out) | exact HB.out)) hb); have n3_ := Aside0.mk (hbox); have n4_ := Aside0.mk ((by rw [hg]; exact (below_size (by repeat (first | (with_reducible first | exact HB.out | apply below_alloc | apply pw_below_drewN | apply below_drew1 | refine below_set ?_ GE346.out | refine below_set ?_ GE351.out) | exact HB.out))) : w.heap.size ≤ gb366)); have n5_ := Aside0.mk ((by rw [hg]; exact (below_size (by repeat (first | (with_reducible first | exact HB.out | apply below_alloc | apply pw_below_drewN | apply below_drew1 | refine below_set ?_ GE346.out | refine below_set ?_ GE351.out) | exact HB.out))) : w.heap.size ≤ gb366)); have n6_ := Aside0.mk ((by rw [hg]; exact Nat.ne_of_lt (blk_lt (g := gb346) (o := .cells #[.slice (some ad349) l0_0.length c0_0, .string a0_1] 24 (0, 0)) (by (with_reducible repeat (first | refine blk_drewN ?_ _ | refine blk_drew ?_ | refine blk_alloc ?_ _)); exact BK346.out)) : gb346 ≠ gb366)); have n7_ := Aside0.mk ((by rw [hg]; exact Nat.ne_of_gt (blk_lt (g := gb346) (o := .cells #[.slice (some ad349) l0_0.length c0_0, .string a0_1] 24 (0, 0)) (by (with_reducible repeat (first | refine blk_drewN ?_ _ | refine blk_drew ?_ | refine blk_alloc ?_ _)); exact BK346.out)) : gb366 ≠ gb346)); have n8_ := Aside0.mk ((by rw [hg]; exact Nat.ne_of_lt (blk_lt (g := gb351) (o := .cells #[.int .i64 a1, .int .i64 ((rd_T26 l0_0 x5_1).f1), .int .i64 x352002_17, .int .i64 x352003_17, .string x352004_43] 26 (0, 0)) (by (with_reducible repeat (first | refine blk_drewN ?_ _ | refine blk_drew ?_ | refine blk_alloc ?_ _)); exact BK351.out)) : gb351 ≠ gb366)); have n9_ := Aside0.mk ((by rw [hg]; exact Nat.ne_of_gt (blk_lt (g := gb351) (o := .cells #[.int .i64 a1, .int .i64 ((rd_T26 l0_0 x5_1).f1), .int .i64 x352002_17, .int .i64 x352003_17, .string x352004_43] 26 (0, 0)) (by (with_reducible repeat (first | refine blk_drewN ?_ _ | refine blk_drew ?_ | refine blk_alloc ?_ _)); exact BK351.out)) : gb366 ≠ gb351)); clear BK346; clear BK351; clear HB; have BK346 := n0_; have BK351 := n1_; have HB := n2_; have BK366 := n3_; have GW366 := n4_; have GE366 := n5_; have NB346_366 := n6_; have NB366_346 := n7_; have NB351_366 := n8_; have NB366_351 := n9_; clear n0_ n1_ n2_ n3_ n4_ n5_ n6_ n7_ n8_ n9_; clear hb hbox hg; have hnb72 := NB366_346.out; have hnc72 := NB346_366.out; have hnb73 := NB366_351.out; have hnc73 := NB351_366.out; obtain ⟨hcz74_0, hcz74_1, hcz74_2, hcz74_3, hcz74_4⟩ := cells5 BK366.out; have hfz74_0 := fun i_ => blk_frozen BK366.out i_) | ((with_reducible refine gate_callee (f := 31) rfl ?_); refine goesL_ (some 103) rfl rfl Try.func31 (by kernel_rfl) rfl #[.string x10_49] rfl (by (try simp only [List.map_toArray, List.map_cons, List.map_nil]); first | done | rfl | (simp only [List.length_drop, List.length_take]; rfl)) ?_; (with_reducible refine (thresherref15_TakeEnt.calls kj60 x10_49 t367 t368 t369 t370 t371 t372 _ A66.out).mono ?_); rintro e w75 ⟨rfl, hb⟩; refine ⟨_, rfl, ?_⟩; have n0_ := Aside0.mk (blk_below (g := gb346) (o := .cells #[.slice (some ad349) l0_0.length c0_0, .string a0_1] 24 (0, 0)) (by (with_reducible repeat (first | refine blk_drewN ?_ _ | refine blk_drew ?_ | refine blk_alloc ?_ _ | refine blk_far ?_ NB346_366.out _)); exact BK346.out) hb); have n1_ := Aside0.mk (blk_below (g := gb351) (o := .cells #[.int .i64 a1, .int .i64 ((rd_T26 l0_0 x5_1).f1), .int .i64 x352002_17, .int .i64 x352003_17, .string x352004_43] 26 (0, 0)) (by (with_reducible repeat (first | refine blk_drewN ?_ _ | refine blk_drew ?_ | refine blk_alloc ?_ _ | refine blk_far ?_ NB351_366.out _)); exact BK351.out) hb); have n2_ := Aside0.mk (blk_below (g := gb366) (o := .cells #[.int .i64 t360, .int .i64 t361, .int .i64 t362, .int .i64 t363, .string t364] 26 (0, 0)) (by (with_reducible repeat (first | refine blk_drewN ?_ _ | refine blk_drew ?_ | refine blk_alloc ?_ _)); refine blk_put (cs := #[.int .i64 t360, .int .i64 t361, .int .i64 t362, .int .i64 t363, .string (⟨#[]⟩ : ByteArray)]) ?_ 4 _ rfl; (with_reducible repeat (first | refine blk_drewN ?_ _ | refine blk_drew ?_ | refine blk_alloc ?_ _)); refine blk_put (cs := #[.int .i64 t360, .int .i64 t361, .int .i64 t362, .int .i64 0, .string (⟨#[]⟩ : ByteArray)]) ?_ 3 _ rfl; (with_reducible repeat (first | refine blk_drewN ?_ _ | refine blk_drew ?_ | refine blk_alloc ?_ _)); refine blk_put (cs := #[.int .i64 t360, .int .i64 t361, .int .i64 0, .int .i64 0, .string (⟨#[]⟩ : ByteArray)]) ?_ 2 _ rfl; (with_reducible repeat (first | refine blk_drewN ?_ _ | refine blk_drew ?_ | refine blk_alloc ?_ _)); refine blk_put (cs := #[.int .i64 t360, .int .i64 0, .int .i64 0, .int .i64 0, .string (⟨#[]⟩ : ByteArray)]) ?_ 1 _ rfl; (with_reducible repeat (first | refine blk_drewN ?_ _ | refine blk_drew ?_ | refine blk_alloc ?_ _)); refine blk_put (cs := #[.int .i64 0, .int .i64 0, .int .i64 0, .int .i64 0, .string (⟨#[]⟩ : ByteArray)]) ?_ 0 _ rfl; (with_reducible repeat (first | refine blk_drewN ?_ _ | refine blk_drew ?_ | refine blk_alloc ?_ _)); exact BK366.out) hb); have n3_ := Aside0.mk (below_step (by repeat (first | (with_reducible first | exact HB.out | apply below_alloc | apply pw_below_drewN | apply below_drew1 | refine below_set ?_ GE346.out | refine below_set ?_ GE351.out | refine below_set ?_ GE366.out) | exact HB.out)) hb); clear BK346; clear BK351; clear BK366; clear HB; have BK346 := n0_; have BK351 := n1_; have BK366 := n2_; have HB := n3_; clear n0_ n1_ n2_ n3_; (try clear hb); (try clear hb2); (try clear hk); (try clear hi)) | ((with_reducible refine gate_dst (N := 13) rfl ?_); refine box_event ?hg (N := 13) ?hd (cs := #[.int .i64 0, .int .i64 0, .int .i64 0, .int .i64 0, .string (⟨#[]⟩ : ByteArray)]) (t := 26) ?hr ?_; (case hd => rfl); (case hg => rfl); (case hr => first | (go_simp; done) | (go_simp; rfl)); intro gb373 hg w76 hbox hb; have n0_ := Aside0.mk (blk_below (g := gb346) (o := .cells #[.slice (some ad349) l0_0.length c0_0, .string a0_1] 24 (0, 0)) (by (with_reducible repeat (first | refine blk_drewN ?_ _ | refine blk_drew ?_ | refine blk_alloc ?_ _)); exact BK346.out) hb); have n1_ := Aside0.mk (blk_below (g := gb351) (o := .cells #[.int .i64 a1, .int .i64 ((rd_T26 l0_0 x5_1).f1), .int .i64 x352002_17, .int .i64 x352003_17, .string x352004_43] 26 (0, 0)) (by (with_reducible repeat (first | refine blk_drewN ?_ _ | refine blk_drew ?_ | refine blk_alloc ?_ _)); exact BK351.out) hb); have n2_ := Aside0.mk (blk_below (g := gb366) (o := .cells #[.int .i64 t360, .int .i64 t361, .int .i64 t362, .int .i64 t363, .string t364] 26 (0, 0)) (by (with_reducible repeat (first | refine blk_drewN ?_ _ | refine blk_drew ?_ | refine blk_alloc ?_ _)); exact BK366.out) hb); have n3_ := Aside0.mk (below_step (by repeat (first | (with_reducible first | exact HB.out | apply below_alloc | apply pw_below_drewN | apply below_drew1 | refine below_set ?_ GE346.out | refine below_set ?_ GE351.out | refine below_set ?_ GE366.out) | exact HB.out)) hb); have n4_ := Aside0.mk (hbox); have n5_ := Aside0.mk ((by rw [hg]; exact (below_size (by repeat (first | (with_reducible first | exact HB.out | apply below_alloc | apply pw_below_drewN | apply below_drew1 | refine below_set ?_ GE346.out | refine below_set ?_ GE351.out | refine below_set ?_ GE366.out) | exact HB.out))) : w.heap.size ≤ gb373)); have n6_ := Aside0.mk ((by rw [hg]; exact (below_size (by repeat (first | (with_reducible first | exact HB.out | apply below_alloc | apply pw_below_drewN | apply below_drew1 | refine below_set ?_ GE346.out | refine below_set ?_ GE351.out | refine below_set ?_ GE366.out) | exact HB.out))) : w.heap.size ≤ gb373)); have n7_ := Aside0.mk ((by rw [hg]; exact Nat.ne_of_lt (blk_lt (g := gb346) (o := .cells #[.slice (some ad349) l0_0.length c0_0, .string a0_1] 24 (0, 0)) (by (with_reducible repeat (first | refine blk_drewN ?_ _ | refine blk_drew ?_ | refine blk_alloc ?_ _)); exact BK346.out)) : gb346 ≠ gb373)); have n8_ := Aside0.mk ((by rw [hg]; exact Nat.ne_of_gt (blk_lt (g := gb346) (o := .cells #[.slice (some ad349) l0_0.length c0_0, .string a0_1] 24 (0, 0)) (by (with_reducible repeat (first | refine blk_drewN ?_ _ | refine blk_drew ?_ | refine blk_alloc ?_ _)); exact BK346.out)) : gb373 ≠ gb346)); have n9_ := Aside0.mk ((by rw [hg]; exact Nat.ne_of_lt (blk_lt (g := gb351) (o := .cells #[.int .i64 a1, .int .i64 ((rd_T26 l0_0 x5_1).f1), .int .i64 x352002_17, .int .i64 x352003_17, .string x352004_43] 26 (0, 0)) (by (with_reducible repeat (first | refine blk_drewN ?_ _ | refine blk_drew ?_ | refine blk_alloc ?_ _)); exact BK351.out)) : gb351 ≠ gb373)); have n10_ := Aside0.mk ((by rw [hg]; exact Nat.ne_of_gt (blk_lt (g := gb351) (o := .cells #[.int .i64 a1, .int .i64 ((rd_T26 l0_0 x5_1).f1), .int .i64 x352002_17, .int .i64 x352003_17, .string x352004_43] 26 (0, 0)) (by (with_reducible repeat (first | refine blk_drewN ?_ _ | refine blk_drew ?_ | refine blk_alloc ?_ _)); exact BK351.out)) : gb373 ≠ gb351)); have n11_ := Aside0.mk ((by rw [hg]; exact Nat.ne_of_lt (blk_lt (g := gb366) (o := .cells #[.int .i64 t360, .int .i64 t361, .int .i64 t362, .int .i64 t363, .string t364] 26 (0, 0)) (by (with_reducible repeat (first | refine blk_drewN ?_ _ | refine blk_drew ?_ | refine blk_alloc ?_ _)); exact BK366.out)) : gb366 ≠ gb373)); have n12_ := Aside0.mk ((by rw [hg]; exact Nat.ne_of_gt (blk_lt (g := gb366) (o := .cells #[.int .i64 t360, .int .i64 t361, .int .i64 t362, .int .i64 t363, .string t364] 26 (0, 0)) (by (with_reducible repeat (first | refine blk_drewN ?_ _ | refine blk_drew ?_ | refine blk_alloc ?_ _)); exact BK366.out)) : gb373 ≠ gb366)); clear BK346; clear BK351; clear BK366; clear HB; have BK346 := n0_; have BK351 := n1_; have BK366 := n2_; have HB := n3_; have BK373 := n4_; have GW373 := n5_; have GE373 := n6_; have NB346_373 := n7_; have NB373_346 := n8_; have NB351_373 := n9_; have NB373_351 := n10_; have NB366_373 := n11_; have NB373_366 := n12_; clear n0_ n1_ n2_ n3_ n4_ n5_ n6_ n7_ n8_ n9_ n10_ n11_ n12_; clear hb hbox hg; have hnb77 := NB373_346.out; have hnc77 := NB346_373.out; have hnb78 := NB373_351.out; have hnc78 := NB351_373.out; have hnb79 := NB373_366.out; have hnc79 := NB366_373.out; obtain ⟨hcz80_0, hcz80_1, hcz80_2, hcz80_3, hcz80_4⟩ := cells5 BK373.out; have hfz80_0 := fun i_ => blk_frozen BK373.out i_) | ((with_reducible refine gate_callee (f := 12) rfl ?_); refine goesL_ (some 107) rfl rfl Try.func12 (by kernel_rfl) rfl #[.int .i64 t365] rfl (by (try simp only [List.map_toArray, List.map_cons, List.map_nil]); first | done | rfl | (simp only [List.length_drop, List.length_take]; rfl)) ?_; (with_reducible refine (thresherlaw16_num.calls t365 t374 _ A67.out).mono ?_); rintro e w' ⟨rfl, ⟨nd, rfl⟩⟩; refine ⟨_, rfl, ?_⟩; obtain ⟨hcz81_0, hcz81_1, hcz81_2, hcz81_3, hcz81_4⟩ := cells5 BK366.out; have hfz81_0 := fun i_ => blk_frozen BK366.out i_))
                      go_ret
                      exact ⟨by first | rfl | (simp [errW_none, errW_some] <;> rfl) | (simp [*, errW_none, errW_some] <;> rfl), by repeat (first | (with_reducible first | exact HB.out | apply below_alloc | apply pw_below_drewN | apply below_drew1 | refine below_set ?_ GE346.out | refine below_set ?_ GE351.out | refine below_set ?_ GE366.out | refine below_set ?_ GE373.out) | exact HB.out)⟩
                     ·
                      rw [if_neg c69] at H
                      have c69b0 : (!(t360 == t367) || (!(t361 == t368) || (!(t362 == t369) || (!(t363 == t370) || (!(t364.toList == t371.toList)))))) = false := by simpa using c69
                      clear c69
                      have H' := Aside0.mk H
                      clear H
                      go_wp2_with (first | ((with_reducible refine gate_callee (f := 30) rfl ?_); refine goesL_ (some 98) rfl rfl Try.func30 (by kernel_rfl) rfl #[.string t355] rfl (by (try simp only [List.map_toArray, List.map_cons, List.map_nil]); first | done | rfl | (simp only [List.length_drop, List.length_take]; rfl)) ?_; (with_reducible refine (ent_Take.calls kj60 t355 t360 t361 t362 t363 t364 t365 _ A65.out).mono ?_); rintro e w82 ⟨rfl, hb⟩; refine ⟨_, rfl, ?_⟩; have n0_ := Aside0.mk (blk_below (g := gb346) (o := .cells #[.slice (some ad349) l0_0.length c0_0, .string a0_1] 24 (0, 0)) (by (with_reducible repeat (first | refine blk_drewN ?_ _ | refine blk_drew ?_ | refine blk_alloc ?_ _)); exact BK346.out) hb); have n1_ := Aside0.mk (blk_below (g := gb351) (o := .cells #[.int .i64 a1, .int .i64 ((rd_T26 l0_0 x5_1).f1), .int .i64 x352002_17, .int .i64 x352003_17, .string x352004_43] 26 (0, 0)) (by (with_reducible repeat (first | refine blk_drewN ?_ _ | refine blk_drew ?_ | refine blk_alloc ?_ _)); exact BK351.out) hb); have n2_ := Aside0.mk (below_step (by repeat (first | (with_reducible first | exact HB.out | apply below_alloc | apply pw_below_drewN | apply below_drew1 | refine below_set ?_ GE346.out | refine below_set ?_ GE351.out) | exact HB.out)) hb); clear BK346; clear BK351; clear HB; have BK346 := n0_; have BK351 := n1_; have HB := n2_; clear n0_ n1_ n2_; (try clear hb); (try clear hb2); (try clear hk); (try clear hi)) | ((with_reducible refine gate_dst (N := 11) rfl ?_); refine box_event ?hg (N := 11) ?hd (cs := #[.int .i64 0, .int .i64 0, .int .i64 0, .int .i64 0, .string (⟨#[]⟩ : ByteArray)]) (t := 26) ?hr ?_; (case hd => rfl); (case hg => rfl); (case hr => first | (go_simp; done) | (go_simp; rfl)); intro gb366 hg w83 hbox hb; have n0_ := Aside0.mk (blk_below (g := gb346) (o := .cells #[.slice (some ad349) l0_0.length c0_0, .string a0_1] 24 (0, 0)) (by (with_reducible repeat (first | refine blk_drewN ?_ _ | refine blk_drew ?_ | refine blk_alloc ?_ _)); exact BK346.out) hb); have n1_ := Aside0.mk (blk_below (g := gb351) (o := .cells #[.int .i64 a1, .int .i64 ((rd_T26 l0_0 x5_1).f1), .int .i64 x352002_17, .int .i64 x352003_17, .string x352004_43] 26 (0, 0)) (by (with_reducible repeat (first | refine blk_drewN ?_ _ | refine blk_drew ?_ | refine blk_alloc ?_ _)); exact BK351.out) hb); have n2_ := Aside0.mk (below_step (by repeat (first | (with_reducible first | exact HB.out | apply below_alloc | apply pw_below_drewN | apply below_drew1 | refine below_set ?_ GE346.out | refine below_set ?_ GE351.out) | exact HB.out)) hb); have n3_ := Aside0.mk (hbox); have n4_ := Aside0.mk ((by rw [hg]; exact (below_size (by repeat (first | (with_reducible first | exact HB.out | apply below_alloc | apply pw_below_drewN | apply below_drew1 | refine below_set ?_ GE346.out | refine below_set ?_ GE351.out) | exact HB.out))) : w.heap.size ≤ gb366)); have n5_ := Aside0.mk ((by rw [hg]; exact (below_size (by repeat (first | (with_reducible first | exact HB.out | apply below_alloc | apply pw_below_drewN | apply below_drew1 | refine below_set ?_ GE346.out | refine below_set ?_ GE351.out) | exact HB.out))) : w.heap.size ≤ gb366)); have n6_ := Aside0.mk ((by rw [hg]; exact Nat.ne_of_lt (blk_lt (g := gb346) (o := .cells #[.slice (some ad349) l0_0.length c0_0, .string a0_1] 24 (0, 0)) (by (with_reducible repeat (first | refine blk_drewN ?_ _ | refine blk_drew ?_ | refine blk_alloc ?_ _)); exact BK346.out)) : gb346 ≠ gb366)); have n7_ := Aside0.mk ((by rw [hg]; exact Nat.ne_of_gt (blk_lt (g := gb346) (o := .cells #[.slice (some ad349) l0_0.length c0_0, .string a0_1] 24 (0, 0)) (by (with_reducible repeat (first | refine blk_drewN ?_ _ | refine blk_drew ?_ | refine blk_alloc ?_ _)); exact BK346.out)) : gb366 ≠ gb346)); have n8_ := Aside0.mk ((by rw [hg]; exact Nat.ne_of_lt (blk_lt (g := gb351) (o := .cells #[.int .i64 a1, .int .i64 ((rd_T26 l0_0 x5_1).f1), .int .i64 x352002_17, .int .i64 x352003_17, .string x352004_43] 26 (0, 0)) (by (with_reducible repeat (first | refine blk_drewN ?_ _ | refine blk_drew ?_ | refine blk_alloc ?_ _)); exact BK351.out)) : gb351 ≠ gb366)); have n9_ := Aside0.mk ((by rw [hg]; exact Nat.ne_of_gt (blk_lt (g := gb351) (o := .cells #[.int .i64 a1, .int .i64 ((rd_T26 l0_0 x5_1).f1), .int .i64 x352002_17, .int .i64 x352003_17, .string x352004_43] 26 (0, 0)) (by (with_reducible repeat (first | refine blk_drewN ?_ _ | refine blk_drew ?_ | refine blk_alloc ?_ _)); exact BK351.out)) : gb366 ≠ gb351)); clear BK346; clear BK351; clear HB; have BK346 := n0_; have BK351 := n1_; have HB := n2_; have BK366 := n3_; have GW366 := n4_; have GE366 := n5_; have NB346_366 := n6_; have NB366_346 := n7_; have NB351_366 := n8_; have NB366_351 := n9_; clear n0_ n1_ n2_ n3_ n4_ n5_ n6_ n7_ n8_ n9_; clear hb hbox hg; have hnb84 := NB366_346.out; have hnc84 := NB346_366.out; have hnb85 := NB366_351.out; have hnc85 := NB351_366.out; obtain ⟨hcz86_0, hcz86_1, hcz86_2, hcz86_3, hcz86_4⟩ := cells5 BK366.out; have hfz86_0 := fun i_ => blk_frozen BK366.out i_) | ((with_reducible refine gate_callee (f := 31) rfl ?_); refine goesL_ (some 103) rfl rfl Try.func31 (by kernel_rfl) rfl #[.string x10_49] rfl (by (try simp only [List.map_toArray, List.map_cons, List.map_nil]); first | done | rfl | (simp only [List.length_drop, List.length_take]; rfl)) ?_; (with_reducible refine (thresherref15_TakeEnt.calls kj60 x10_49 t367 t368 t369 t370 t371 t372 _ A66.out).mono ?_); rintro e w87 ⟨rfl, hb⟩; refine ⟨_, rfl, ?_⟩; have n0_ := Aside0.mk (blk_below (g := gb346) (o := .cells #[.slice (some ad349) l0_0.length c0_0, .string a0_1] 24 (0, 0)) (by (with_reducible repeat (first | refine blk_drewN ?_ _ | refine blk_drew ?_ | refine blk_alloc ?_ _ | refine blk_far ?_ NB346_366.out _)); exact BK346.out) hb); have n1_ := Aside0.mk (blk_below (g := gb351) (o := .cells #[.int .i64 a1, .int .i64 ((rd_T26 l0_0 x5_1).f1), .int .i64 x352002_17, .int .i64 x352003_17, .string x352004_43] 26 (0, 0)) (by (with_reducible repeat (first | refine blk_drewN ?_ _ | refine blk_drew ?_ | refine blk_alloc ?_ _ | refine blk_far ?_ NB351_366.out _)); exact BK351.out) hb); have n2_ := Aside0.mk (blk_below (g := gb366) (o := .cells #[.int .i64 t360, .int .i64 t361, .int .i64 t362, .int .i64 t363, .string t364] 26 (0, 0)) (by (with_reducible repeat (first | refine blk_drewN ?_ _ | refine blk_drew ?_ | refine blk_alloc ?_ _)); refine blk_put (cs := #[.int .i64 t360, .int .i64 t361, .int .i64 t362, .int .i64 t363, .string (⟨#[]⟩ : ByteArray)]) ?_ 4 _ rfl; (with_reducible repeat (first | refine blk_drewN ?_ _ | refine blk_drew ?_ | refine blk_alloc ?_ _)); refine blk_put (cs := #[.int .i64 t360, .int .i64 t361, .int .i64 t362, .int .i64 0, .string (⟨#[]⟩ : ByteArray)]) ?_ 3 _ rfl; (with_reducible repeat (first | refine blk_drewN ?_ _ | refine blk_drew ?_ | refine blk_alloc ?_ _)); refine blk_put (cs := #[.int .i64 t360, .int .i64 t361, .int .i64 0, .int .i64 0, .string (⟨#[]⟩ : ByteArray)]) ?_ 2 _ rfl; (with_reducible repeat (first | refine blk_drewN ?_ _ | refine blk_drew ?_ | refine blk_alloc ?_ _)); refine blk_put (cs := #[.int .i64 t360, .int .i64 0, .int .i64 0, .int .i64 0, .string (⟨#[]⟩ : ByteArray)]) ?_ 1 _ rfl; (with_reducible repeat (first | refine blk_drewN ?_ _ | refine blk_drew ?_ | refine blk_alloc ?_ _)); refine blk_put (cs := #[.int .i64 0, .int .i64 0, .int .i64 0, .int .i64 0, .string (⟨#[]⟩ : ByteArray)]) ?_ 0 _ rfl; (with_reducible repeat (first | refine blk_drewN ?_ _ | refine blk_drew ?_ | refine blk_alloc ?_ _)); exact BK366.out) hb); have n3_ := Aside0.mk (below_step (by repeat (first | (with_reducible first | exact HB.out | apply below_alloc | apply pw_below_drewN | apply below_drew1 | refine below_set ?_ GE346.out | refine below_set ?_ GE351.out | refine below_set ?_ GE366.out) | exact HB.out)) hb); clear BK346; clear BK351; clear BK366; clear HB; have BK346 := n0_; have BK351 := n1_; have BK366 := n2_; have HB := n3_; clear n0_ n1_ n2_ n3_; (try clear hb); (try clear hb2); (try clear hk); (try clear hi)) | ((with_reducible refine gate_dst (N := 13) rfl ?_); refine box_event ?hg (N := 13) ?hd (cs := #[.int .i64 0, .int .i64 0, .int .i64 0, .int .i64 0, .string (⟨#[]⟩ : ByteArray)]) (t := 26) ?hr ?_; (case hd => rfl); (case hg => rfl); (case hr => first | (go_simp; done) | (go_simp; rfl)); intro gb373 hg w88 hbox hb; have n0_ := Aside0.mk (blk_below (g := gb346) (o := .cells #[.slice (some ad349) l0_0.length c0_0, .string a0_1] 24 (0, 0)) (by (with_reducible repeat (first | refine blk_drewN ?_ _ | refine blk_drew ?_ | refine blk_alloc ?_ _)); exact BK346.out) hb); have n1_ := Aside0.mk (blk_below (g := gb351) (o := .cells #[.int .i64 a1, .int .i64 ((rd_T26 l0_0 x5_1).f1), .int .i64 x352002_17, .int .i64 x352003_17, .string x352004_43] 26 (0, 0)) (by (with_reducible repeat (first | refine blk_drewN ?_ _ | refine blk_drew ?_ | refine blk_alloc ?_ _)); exact BK351.out) hb); have n2_ := Aside0.mk (blk_below (g := gb366) (o := .cells #[.int .i64 t360, .int .i64 t361, .int .i64 t362, .int .i64 t363, .string t364] 26 (0, 0)) (by (with_reducible repeat (first | refine blk_drewN ?_ _ | refine blk_drew ?_ | refine blk_alloc ?_ _)); exact BK366.out) hb); have n3_ := Aside0.mk (below_step (by repeat (first | (with_reducible first | exact HB.out | apply below_alloc | apply pw_below_drewN | apply below_drew1 | refine below_set ?_ GE346.out | refine below_set ?_ GE351.out | refine below_set ?_ GE366.out) | exact HB.out)) hb); have n4_ := Aside0.mk (hbox); have n5_ := Aside0.mk ((by rw [hg]; exact (below_size (by repeat (first | (with_reducible first | exact HB.out | apply below_alloc | apply pw_below_drewN | apply below_drew1 | refine below_set ?_ GE346.out | refine below_set ?_ GE351.out | refine below_set ?_ GE366.out) | exact HB.out))) : w.heap.size ≤ gb373)); have n6_ := Aside0.mk ((by rw [hg]; exact (below_size (by repeat (first | (with_reducible first | exact HB.out | apply below_alloc | apply pw_below_drewN | apply below_drew1 | refine below_set ?_ GE346.out | refine below_set ?_ GE351.out | refine below_set ?_ GE366.out) | exact HB.out))) : w.heap.size ≤ gb373)); have n7_ := Aside0.mk ((by rw [hg]; exact Nat.ne_of_lt (blk_lt (g := gb346) (o := .cells #[.slice (some ad349) l0_0.length c0_0, .string a0_1] 24 (0, 0)) (by (with_reducible repeat (first | refine blk_drewN ?_ _ | refine blk_drew ?_ | refine blk_alloc ?_ _)); exact BK346.out)) : gb346 ≠ gb373)); have n8_ := Aside0.mk ((by rw [hg]; exact Nat.ne_of_gt (blk_lt (g := gb346) (o := .cells #[.slice (some ad349) l0_0.length c0_0, .string a0_1] 24 (0, 0)) (by (with_reducible repeat (first | refine blk_drewN ?_ _ | refine blk_drew ?_ | refine blk_alloc ?_ _)); exact BK346.out)) : gb373 ≠ gb346)); have n9_ := Aside0.mk ((by rw [hg]; exact Nat.ne_of_lt (blk_lt (g := gb351) (o := .cells #[.int .i64 a1, .int .i64 ((rd_T26 l0_0 x5_1).f1), .int .i64 x352002_17, .int .i64 x352003_17, .string x352004_43] 26 (0, 0)) (by (with_reducible repeat (first | refine blk_drewN ?_ _ | refine blk_drew ?_ | refine blk_alloc ?_ _)); exact BK351.out)) : gb351 ≠ gb373)); have n10_ := Aside0.mk ((by rw [hg]; exact Nat.ne_of_gt (blk_lt (g := gb351) (o := .cells #[.int .i64 a1, .int .i64 ((rd_T26 l0_0 x5_1).f1), .int .i64 x352002_17, .int .i64 x352003_17, .string x352004_43] 26 (0, 0)) (by (with_reducible repeat (first | refine blk_drewN ?_ _ | refine blk_drew ?_ | refine blk_alloc ?_ _)); exact BK351.out)) : gb373 ≠ gb351)); have n11_ := Aside0.mk ((by rw [hg]; exact Nat.ne_of_lt (blk_lt (g := gb366) (o := .cells #[.int .i64 t360, .int .i64 t361, .int .i64 t362, .int .i64 t363, .string t364] 26 (0, 0)) (by (with_reducible repeat (first | refine blk_drewN ?_ _ | refine blk_drew ?_ | refine blk_alloc ?_ _)); exact BK366.out)) : gb366 ≠ gb373)); have n12_ := Aside0.mk ((by rw [hg]; exact Nat.ne_of_gt (blk_lt (g := gb366) (o := .cells #[.int .i64 t360, .int .i64 t361, .int .i64 t362, .int .i64 t363, .string t364] 26 (0, 0)) (by (with_reducible repeat (first | refine blk_drewN ?_ _ | refine blk_drew ?_ | refine blk_alloc ?_ _)); exact BK366.out)) : gb373 ≠ gb366)); clear BK346; clear BK351; clear BK366; clear HB; have BK346 := n0_; have BK351 := n1_; have BK366 := n2_; have HB := n3_; have BK373 := n4_; have GW373 := n5_; have GE373 := n6_; have NB346_373 := n7_; have NB373_346 := n8_; have NB351_373 := n9_; have NB373_351 := n10_; have NB366_373 := n11_; have NB373_366 := n12_; clear n0_ n1_ n2_ n3_ n4_ n5_ n6_ n7_ n8_ n9_ n10_ n11_ n12_; clear hb hbox hg; have hnb89 := NB373_346.out; have hnc89 := NB346_373.out; have hnb90 := NB373_351.out; have hnc90 := NB351_373.out; have hnb91 := NB373_366.out; have hnc91 := NB366_373.out; obtain ⟨hcz92_0, hcz92_1, hcz92_2, hcz92_3, hcz92_4⟩ := cells5 BK373.out; have hfz92_0 := fun i_ => blk_frozen BK373.out i_) | ((with_reducible refine gate_callee (f := 12) rfl ?_); refine goesL_ (some 107) rfl rfl Try.func12 (by kernel_rfl) rfl #[.int .i64 t365] rfl (by (try simp only [List.map_toArray, List.map_cons, List.map_nil]); first | done | rfl | (simp only [List.length_drop, List.length_take]; rfl)) ?_; (with_reducible refine (thresherlaw16_num.calls t365 t374 _ A67.out).mono ?_); rintro e w' ⟨rfl, ⟨nd, rfl⟩⟩; refine ⟨_, rfl, ?_⟩; obtain ⟨hcz93_0, hcz93_1, hcz93_2, hcz93_3, hcz93_4⟩ := cells5 BK366.out; have hfz93_0 := fun i_ => blk_frozen BK366.out i_))
                      go_roundg kj60
                      case measure => have := HK1.out; have := HJ10.out; have := HJ17.out; have := HJ37.out; have := HJ43.out; have := HJ49.out; have := HJ60.out; omega
                      case rel => exact ⟨(wrap64 (x5_1 + 1)), (by first | rfl | (simp; done) | (simp [*]; done)), H', ⟨by have := HK1.out; have := HJ10.out; have := HJ17.out; have := HJ37.out; have := HJ43.out; have := HJ49.out; have := HJ60.out; omega⟩, ⟨by (with_reducible repeat (first | refine blk_drewN ?_ _ | refine blk_drew ?_ | refine blk_alloc ?_ _ | refine blk_far ?_ NB346_373.out _)); exact BK346.out⟩, ⟨by repeat (first | (with_reducible first | exact HB.out | apply below_alloc | apply pw_below_drewN | apply below_drew1 | refine below_set ?_ GE346.out | refine below_set ?_ GE351.out | refine below_set ?_ GE366.out | refine below_set ?_ GE373.out) | exact HB.out)⟩⟩
                    ·
                     rw [if_neg c68] at H
                     have c68b0 : (t374 == t372) = false := beq_eq_false_iff_ne.mpr c68
                     have c68b1 : (t374 != t372) = true := bne_iff_ne.mpr c68
                     obtain rfl := Option.some.inj H
                     go_wp2_with (first | ((with_reducible refine gate_callee (f := 30) rfl ?_); refine goesL_ (some 98) rfl rfl Try.func30 (by kernel_rfl) rfl #[.string t355] rfl (by (try simp only [List.map_toArray, List.map_cons, List.map_nil]); first | done | rfl | (simp only [List.length_drop, List.length_take]; rfl)) ?_; (with_reducible refine (ent_Take.calls kj60 t355 t360 t361 t362 t363 t364 t365 _ A65.out).mono ?_); rintro e w94 ⟨rfl, hb⟩; refine ⟨_, rfl, ?_⟩; have n0_ := Aside0.mk (blk_below (g := gb346) (o := .cells #[.slice (some ad349) l0_0.length c0_0, .string a0_1] 24 (0, 0)) (by (with_reducible repeat (first | refine blk_drewN ?_ _ | refine blk_drew ?_ | refine blk_alloc ?_ _)); exact BK346.out) hb); have n1_ := Aside0.mk (blk_below (g := gb351) (o := .cells #[.int .i64 a1, .int .i64 ((rd_T26 l0_0 x5_1).f1), .int .i64 x352002_17, .int .i64 x352003_17, .string x352004_43] 26 (0, 0)) (by (with_reducible repeat (first | refine blk_drewN ?_ _ | refine blk_drew ?_ | refine blk_alloc ?_ _)); exact BK351.out) hb); have n2_ := Aside0.mk (below_step (by repeat (first | (with_reducible first | exact HB.out | apply below_alloc | apply pw_below_drewN | apply below_drew1 | refine below_set ?_ GE346.out | refine below_set ?_ GE351.out) | exact HB.out)) hb); clear BK346; clear BK351; clear HB; have BK346 := n0_; have BK351 := n1_; have HB := n2_; clear n0_ n1_ n2_; (try clear hb); (try clear hb2); (try clear hk); (try clear hi)) | ((with_reducible refine gate_dst (N := 11) rfl ?_); refine box_event ?hg (N := 11) ?hd (cs := #[.int .i64 0, .int .i64 0, .int .i64 0, .int .i64 0, .string (⟨#[]⟩ : ByteArray)]) (t := 26) ?hr ?_; (case hd => rfl); (case hg => rfl); (case hr => first | (go_simp; done) | (go_simp; rfl)); intro gb366 hg w95 hbox hb; have n0_ := Aside0.mk (blk_below (g := gb346) (o := .cells #[.slice (some ad349) l0_0.length c0_0, .string a0_1] 24 (0, 0)) (by (with_reducible repeat (first | refine blk_drewN ?_ _ | refine blk_drew ?_ | refine blk_alloc ?_ _)); exact BK346.out) hb); have n1_ := Aside0.mk (blk_below (g := gb351) (o := .cells #[.int .i64 a1, .int .i64 ((rd_T26 l0_0 x5_1).f1), .int .i64 x352002_17, .int .i64 x352003_17, .string x352004_43] 26 (0, 0)) (by (with_reducible repeat (first | refine blk_drewN ?_ _ | refine blk_drew ?_ | refine blk_alloc ?_ _)); exact BK351.out) hb); have n2_ := Aside0.mk (below_step (by repeat (first | (with_reducible first | exact HB.out | apply below_alloc | apply pw_below_drewN | apply below_drew1 | refine below_set ?_ GE346.out | refine below_set ?_ GE351.out) | exact HB.out)) hb); have n3_ := Aside0.mk (hbox); have n4_ := Aside0.mk ((by rw [hg]; exact (below_size (by repeat (first | (with_reducible first | exact HB.out | apply below_alloc | apply pw_below_drewN | apply below_drew1 | refine below_set ?_ GE346.out | refine below_set ?_ GE351.out) | exact HB.out))) : w.heap.size ≤ gb366)); have n5_ := Aside0.mk ((by rw [hg]; exact (below_size (by repeat (first | (with_reducible first | exact HB.out | apply below_alloc | apply pw_below_drewN | apply below_drew1 | refine below_set ?_ GE346.out | refine below_set ?_ GE351.out) | exact HB.out))) : w.heap.size ≤ gb366)); have n6_ := Aside0.mk ((by rw [hg]; exact Nat.ne_of_lt (blk_lt (g := gb346) (o := .cells #[.slice (some ad349) l0_0.length c0_0, .string a0_1] 24 (0, 0)) (by (with_reducible repeat (first | refine blk_drewN ?_ _ | refine blk_drew ?_ | refine blk_alloc ?_ _)); exact BK346.out)) : gb346 ≠ gb366)); have n7_ := Aside0.mk ((by rw [hg]; exact Nat.ne_of_gt (blk_lt (g := gb346) (o := .cells #[.slice (some ad349) l0_0.length c0_0, .string a0_1] 24 (0, 0)) (by (with_reducible repeat (first | refine blk_drewN ?_ _ | refine blk_drew ?_ | refine blk_alloc ?_ _)); exact BK346.out)) : gb366 ≠ gb346)); have n8_ := Aside0.mk ((by rw [hg]; exact Nat.ne_of_lt (blk_lt (g := gb351) (o := .cells #[.int .i64 a1, .int .i64 ((rd_T26 l0_0 x5_1).f1), .int .i64 x352002_17, .int .i64 x352003_17, .string x352004_43] 26 (0, 0)) (by (with_reducible repeat (first | refine blk_drewN ?_ _ | refine blk_drew ?_ | refine blk_alloc ?_ _)); exact BK351.out)) : gb351 ≠ gb366)); have n9_ := Aside0.mk ((by rw [hg]; exact Nat.ne_of_gt (blk_lt (g := gb351) (o := .cells #[.int .i64 a1, .int .i64 ((rd_T26 l0_0 x5_1).f1), .int .i64 x352002_17, .int .i64 x352003_17, .string x352004_43] 26 (0, 0)) (by (with_reducible repeat (first | refine blk_drewN ?_ _ | refine blk_drew ?_ | refine blk_alloc ?_ _)); exact BK351.out)) : gb366 ≠ gb351)); clear BK346; clear BK351; clear HB; have BK346 := n0_; have BK351 := n1_; have HB := n2_; have BK366 := n3_; have GW366 := n4_; have GE366 := n5_; have NB346_366 := n6_; have NB366_346 := n7_; have NB351_366 := n8_; have NB366_351 := n9_; clear n0_ n1_ n2_ n3_ n4_ n5_ n6_ n7_ n8_ n9_; clear hb hbox hg; have hnb96 := NB366_346.out; have hnc96 := NB346_366.out; have hnb97 := NB366_351.out; have hnc97 := NB351_366.out; obtain ⟨hcz98_0, hcz98_1, hcz98_2, hcz98_3, hcz98_4⟩ := cells5 BK366.out; have hfz98_0 := fun i_ => blk_frozen BK366.out i_) | ((with_reducible refine gate_callee (f := 31) rfl ?_); refine goesL_ (some 103) rfl rfl Try.func31 (by kernel_rfl) rfl #[.string x10_49] rfl (by (try simp only [List.map_toArray, List.map_cons, List.map_nil]); first | done | rfl | (simp only [List.length_drop, List.length_take]; rfl)) ?_; (with_reducible refine (thresherref15_TakeEnt.calls kj60 x10_49 t367 t368 t369 t370 t371 t372 _ A66.out).mono ?_); rintro e w99 ⟨rfl, hb⟩; refine ⟨_, rfl, ?_⟩; have n0_ := Aside0.mk (blk_below (g := gb346) (o := .cells #[.slice (some ad349) l0_0.length c0_0, .string a0_1] 24 (0, 0)) (by (with_reducible repeat (first | refine blk_drewN ?_ _ | refine blk_drew ?_ | refine blk_alloc ?_ _ | refine blk_far ?_ NB346_366.out _)); exact BK346.out) hb); have n1_ := Aside0.mk (blk_below (g := gb351) (o := .cells #[.int .i64 a1, .int .i64 ((rd_T26 l0_0 x5_1).f1), .int .i64 x352002_17, .int .i64 x352003_17, .string x352004_43] 26 (0, 0)) (by (with_reducible repeat (first | refine blk_drewN ?_ _ | refine blk_drew ?_ | refine blk_alloc ?_ _ | refine blk_far ?_ NB351_366.out _)); exact BK351.out) hb); have n2_ := Aside0.mk (blk_below (g := gb366) (o := .cells #[.int .i64 t360, .int .i64 t361, .int .i64 t362, .int .i64 t363, .string t364] 26 (0, 0)) (by (with_reducible repeat (first | refine blk_drewN ?_ _ | refine blk_drew ?_ | refine blk_alloc ?_ _)); refine blk_put (cs := #[.int .i64 t360, .int .i64 t361, .int .i64 t362, .int .i64 t363, .string (⟨#[]⟩ : ByteArray)]) ?_ 4 _ rfl; (with_reducible repeat (first | refine blk_drewN ?_ _ | refine blk_drew ?_ | refine blk_alloc ?_ _)); refine blk_put (cs := #[.int .i64 t360, .int .i64 t361, .int .i64 t362, .int .i64 0, .string (⟨#[]⟩ : ByteArray)]) ?_ 3 _ rfl; (with_reducible repeat (first | refine blk_drewN ?_ _ | refine blk_drew ?_ | refine blk_alloc ?_ _)); refine blk_put (cs := #[.int .i64 t360, .int .i64 t361, .int .i64 0, .int .i64 0, .string (⟨#[]⟩ : ByteArray)]) ?_ 2 _ rfl; (with_reducible repeat (first | refine blk_drewN ?_ _ | refine blk_drew ?_ | refine blk_alloc ?_ _)); refine blk_put (cs := #[.int .i64 t360, .int .i64 0, .int .i64 0, .int .i64 0, .string (⟨#[]⟩ : ByteArray)]) ?_ 1 _ rfl; (with_reducible repeat (first | refine blk_drewN ?_ _ | refine blk_drew ?_ | refine blk_alloc ?_ _)); refine blk_put (cs := #[.int .i64 0, .int .i64 0, .int .i64 0, .int .i64 0, .string (⟨#[]⟩ : ByteArray)]) ?_ 0 _ rfl; (with_reducible repeat (first | refine blk_drewN ?_ _ | refine blk_drew ?_ | refine blk_alloc ?_ _)); exact BK366.out) hb); have n3_ := Aside0.mk (below_step (by repeat (first | (with_reducible first | exact HB.out | apply below_alloc | apply pw_below_drewN | apply below_drew1 | refine below_set ?_ GE346.out | refine below_set ?_ GE351.out | refine below_set ?_ GE366.out) | exact HB.out)) hb); clear BK346; clear BK351; clear BK366; clear HB; have BK346 := n0_; have BK351 := n1_; have BK366 := n2_; have HB := n3_; clear n0_ n1_ n2_ n3_; (try clear hb); (try clear hb2); (try clear hk); (try clear hi)) | ((with_reducible refine gate_dst (N := 13) rfl ?_); refine box_event ?hg (N := 13) ?hd (cs := #[.int .i64 0, .int .i64 0, .int .i64 0, .int .i64 0, .string (⟨#[]⟩ : ByteArray)]) (t := 26) ?hr ?_; (case hd => rfl); (case hg => rfl); (case hr => first | (go_simp; done) | (go_simp; rfl)); intro gb373 hg w100 hbox hb; have n0_ := Aside0.mk (blk_below (g := gb346) (o := .cells #[.slice (some ad349) l0_0.length c0_0, .string a0_1] 24 (0, 0)) (by (with_reducible repeat (first | refine blk_drewN ?_ _ | refine blk_drew ?_ | refine blk_alloc ?_ _)); exact BK346.out) hb); have n1_ := Aside0.mk (blk_below (g := gb351) (o := .cells #[.int .i64 a1, .int .i64 ((rd_T26 l0_0 x5_1).f1), .int .i64 x352002_17, .int .i64 x352003_17, .string x352004_43] 26 (0, 0)) (by (with_reducible repeat (first | refine blk_drewN ?_ _ | refine blk_drew ?_ | refine blk_alloc ?_ _)); exact BK351.out) hb); have n2_ := Aside0.mk (blk_below (g := gb366) (o := .cells #[.int .i64 t360, .int .i64 t361, .int .i64 t362, .int .i64 t363, .string t364] 26 (0, 0)) (by (with_reducible repeat (first | refine blk_drewN ?_ _ | refine blk_drew ?_ | refine blk_alloc ?_ _)); exact BK366.out) hb); have n3_ := Aside0.mk (below_step (by repeat (first | (with_reducible first | exact HB.out | apply below_alloc | apply pw_below_drewN | apply below_drew1 | refine below_set ?_ GE346.out | refine below_set ?_ GE351.out | refine below_set ?_ GE366.out) | exact HB.out)) hb); have n4_ := Aside0.mk (hbox); have n5_ := Aside0.mk ((by rw [hg]; exact (below_size (by repeat (first | (with_reducible first | exact HB.out | apply below_alloc | apply pw_below_drewN | apply below_drew1 | refine below_set ?_ GE346.out | refine below_set ?_ GE351.out | refine below_set ?_ GE366.out) | exact HB.out))) : w.heap.size ≤ gb373)); have n6_ := Aside0.mk ((by rw [hg]; exact (below_size (by repeat (first | (with_reducible first | exact HB.out | apply below_alloc | apply pw_below_drewN | apply below_drew1 | refine below_set ?_ GE346.out | refine below_set ?_ GE351.out | refine below_set ?_ GE366.out) | exact HB.out))) : w.heap.size ≤ gb373)); have n7_ := Aside0.mk ((by rw [hg]; exact Nat.ne_of_lt (blk_lt (g := gb346) (o := .cells #[.slice (some ad349) l0_0.length c0_0, .string a0_1] 24 (0, 0)) (by (with_reducible repeat (first | refine blk_drewN ?_ _ | refine blk_drew ?_ | refine blk_alloc ?_ _)); exact BK346.out)) : gb346 ≠ gb373)); have n8_ := Aside0.mk ((by rw [hg]; exact Nat.ne_of_gt (blk_lt (g := gb346) (o := .cells #[.slice (some ad349) l0_0.length c0_0, .string a0_1] 24 (0, 0)) (by (with_reducible repeat (first | refine blk_drewN ?_ _ | refine blk_drew ?_ | refine blk_alloc ?_ _)); exact BK346.out)) : gb373 ≠ gb346)); have n9_ := Aside0.mk ((by rw [hg]; exact Nat.ne_of_lt (blk_lt (g := gb351) (o := .cells #[.int .i64 a1, .int .i64 ((rd_T26 l0_0 x5_1).f1), .int .i64 x352002_17, .int .i64 x352003_17, .string x352004_43] 26 (0, 0)) (by (with_reducible repeat (first | refine blk_drewN ?_ _ | refine blk_drew ?_ | refine blk_alloc ?_ _)); exact BK351.out)) : gb351 ≠ gb373)); have n10_ := Aside0.mk ((by rw [hg]; exact Nat.ne_of_gt (blk_lt (g := gb351) (o := .cells #[.int .i64 a1, .int .i64 ((rd_T26 l0_0 x5_1).f1), .int .i64 x352002_17, .int .i64 x352003_17, .string x352004_43] 26 (0, 0)) (by (with_reducible repeat (first | refine blk_drewN ?_ _ | refine blk_drew ?_ | refine blk_alloc ?_ _)); exact BK351.out)) : gb373 ≠ gb351)); have n11_ := Aside0.mk ((by rw [hg]; exact Nat.ne_of_lt (blk_lt (g := gb366) (o := .cells #[.int .i64 t360, .int .i64 t361, .int .i64 t362, .int .i64 t363, .string t364] 26 (0, 0)) (by (with_reducible repeat (first | refine blk_drewN ?_ _ | refine blk_drew ?_ | refine blk_alloc ?_ _)); exact BK366.out)) : gb366 ≠ gb373)); have n12_ := Aside0.mk ((by rw [hg]; exact Nat.ne_of_gt (blk_lt (g := gb366) (o := .cells #[.int .i64 t360, .int .i64 t361, .int .i64 t362, .int .i64 t363, .string t364] 26 (0, 0)) (by (with_reducible repeat (first | refine blk_drewN ?_ _ | refine blk_drew ?_ | refine blk_alloc ?_ _)); exact BK366.out)) : gb373 ≠ gb366)); clear BK346; clear BK351; clear BK366; clear HB; have BK346 := n0_; have BK351 := n1_; have BK366 := n2_; have HB := n3_; have BK373 := n4_; have GW373 := n5_; have GE373 := n6_; have NB346_373 := n7_; have NB373_346 := n8_; have NB351_373 := n9_; have NB373_351 := n10_; have NB366_373 := n11_; have NB373_366 := n12_; clear n0_ n1_ n2_ n3_ n4_ n5_ n6_ n7_ n8_ n9_ n10_ n11_ n12_; clear hb hbox hg; have hnb101 := NB373_346.out; have hnc101 := NB346_373.out; have hnb102 := NB373_351.out; have hnc102 := NB351_373.out; have hnb103 := NB373_366.out; have hnc103 := NB366_373.out; obtain ⟨hcz104_0, hcz104_1, hcz104_2, hcz104_3, hcz104_4⟩ := cells5 BK373.out; have hfz104_0 := fun i_ => blk_frozen BK373.out i_) | ((with_reducible refine gate_callee (f := 12) rfl ?_); refine goesL_ (some 107) rfl rfl Try.func12 (by kernel_rfl) rfl #[.int .i64 t365] rfl (by (try simp only [List.map_toArray, List.map_cons, List.map_nil]); first | done | rfl | (simp only [List.length_drop, List.length_take]; rfl)) ?_; (with_reducible refine (thresherlaw16_num.calls t365 t374 _ A67.out).mono ?_); rintro e w' ⟨rfl, ⟨nd, rfl⟩⟩; refine ⟨_, rfl, ?_⟩))
                     go_ret
                     exact ⟨by first | rfl | (simp [errW_none, errW_some] <;> rfl) | (simp [*, errW_none, errW_some] <;> rfl), by repeat (first | (with_reducible first | exact HB.out | apply below_alloc | apply pw_below_drewN | apply below_drew1 | refine below_set ?_ GE346.out | refine below_set ?_ GE351.out | refine below_set ?_ GE366.out | refine below_set ?_ GE373.out) | exact HB.out)⟩
        ·
         rw [if_neg c17] at H
         exact absurd H (by simp)
       ·
        rw [if_neg c16] at H
        exact absurd H (by simp)
      ·
       replace c15 := Bool.eq_false_iff.mpr c15
       subst c15
       have H1 : ((thresherlaw16_wakes.f kj10).bind fun t348 => (some t348)) = some r := by rw [if_neg (show ¬ (false = true) by decide)] at H; exact H
       clear H
       have H := H1
       clear H1
       replace H := Option.bind_eq_some_iff.mp H
       obtain ⟨t348, A1050, H⟩ := H
       replace H : (some t348) = some r := H
       have A105 := Aside0.mk A1050
       clear A1050
       obtain rfl := Option.some.inj H
       go_wp2_with (first | ((with_reducible refine gate_callee (f := 14) rfl ?_); refine goesL_ (some 115) rfl rfl Try.func14 (by kernel_rfl) rfl #[] rfl (by (try simp only [List.map_toArray, List.map_cons, List.map_nil]); first | done | rfl | (simp only [List.length_drop, List.length_take]; rfl)) ?_; (with_reducible refine (thresherlaw16_wakes.calls kj10  t348 _ A105.out).mono ?_); rintro e w106 ⟨rfl, hb⟩; refine ⟨_, rfl, ?_⟩; have n0_ := Aside0.mk (blk_below (g := gb346) (o := .cells #[.slice A0_0 l0_0.length c0_0, .string a0_1] 24 (0, 0)) (by (with_reducible repeat (first | refine blk_drewN ?_ _ | refine blk_drew ?_ | refine blk_alloc ?_ _)); exact BK346.out) hb); have n1_ := Aside0.mk (below_step (by repeat (first | (with_reducible first | exact HB.out | apply below_alloc | apply pw_below_drewN | apply below_drew1 | refine below_set ?_ GE346.out) | exact HB.out)) hb); clear BK346; clear HB; have BK346 := n0_; have HB := n1_; clear n0_ n1_; (try clear hb); (try clear hb2); (try clear hk); (try clear hi)))
       go_ret
       exact ⟨by first | rfl | (simp [errW_none, errW_some] <;> rfl) | (simp [*, errW_none, errW_some] <;> rfl), by repeat (first | (with_reducible first | exact HB.out | apply below_alloc | apply pw_below_drewN | apply below_drew1 | refine below_set ?_ GE346.out) | exact HB.out)⟩

end Go.Proofs.Ytjnlmcpcdgfpkaa.Q
