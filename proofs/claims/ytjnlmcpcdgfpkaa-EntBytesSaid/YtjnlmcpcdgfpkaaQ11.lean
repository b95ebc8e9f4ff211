/- Contracts of the Go functions that these laws reach: each call answers what the plain Lean function beside it says. Written by a program of this session (pp.py). -/
import Derived.Test.YtjnlmcpcdgfpkaaQ0
import Derived.Test.YtjnlmcpcdgfpkaaQ1
import Derived.Test.YtjnlmcpcdgfpkaaQ2
import Derived.Test.YtjnlmcpcdgfpkaaQ3
import Derived.Test.YtjnlmcpcdgfpkaaQ8
import Derived.Test.YtjnlmcpcdgfpkaaQ9
import Derived.Test.YtjnlmcpcdgfpkaaQ10
namespace Go.Proofs.Ytjnlmcpcdgfpkaa.Q
open Go.RowKit Go.Proofs.YtjnlmcpcdgfpkaaW.PrintWords Go.Proofs.YtjnlmcpcdgfpkaaW.PrintLast Go.Proofs.YtjnlmcpcdgfpkaaW.PrintMore
attribute [local go_sem] max2_int min2_int max_two min_two max_three min_three max_four min_four   -- for this text's walks alone
set_option linter.unusedVariables false
set_option linter.unusedSimpArgs false

attribute [local go_sem high] eqA26
/-! ### thresherlaw16_EntBytes: function 6 -/
mutual
def thresherlaw16_EntBytes.l0 : Nat → List ByteArray → Int → List (S26) → ByteArray → Option (Bool)
 | 0, _, _, _, _ => none
 | k + 1, x3, x4, x293000, x293001 => if x4 < (x293000.length : Int) then (thresherlaw16_EntBytes.j1 k x3 x4 (decide (x4 < 12)) x293000 x293001) else (thresherlaw16_EntBytes.j1 k x3 x4 false x293000 x293001)
def thresherlaw16_EntBytes.j1 : Nat → List ByteArray → Int → Bool → List (S26) → ByteArray → Option (Bool)
 | 0, _, _, _, _, _ => none
 | k + 1, x3, x4, x31, x293000, x293001 => if x31 = true then (if 0 ≤ x4 then (if x4 < (x293000.length : Int) then ((ent_Bytes.f k ((rd_T26 x293000 x4).f0) ((rd_T26 x293000 x4).f1) ((rd_T26 x293000 x4).f2) ((rd_T26 x293000 x4).f3) ((rd_T26 x293000 x4).f4)).bind fun bt298 => ((thresherref15_Entry.f k ((rd_T26 x293000 x4).f0) ((rd_T26 x293000 x4).f1) ((rd_T26 x293000 x4).f2) ((rd_T26 x293000 x4).f3) ((rd_T26 x293000 x4).f4)).bind fun t301 => (if t301 = true then ((thresherref15_EntBytes.f k ((rd_T26 x293000 x4).f0) ((rd_T26 x293000 x4).f1) ((rd_T26 x293000 x4).f2) ((rd_T26 x293000 x4).f3) ((rd_T26 x293000 x4).f4)).bind fun t303 => ((ent_Take.f k t303).bind fun bt304 => ((thresherlaw16_num.f bt304.2.2.2.2.2).bind fun t311 => (if t311 = 0 then (thresherlaw16_EntBytes.j2 k x3 x4 bt298.1 bt298.2 0 t303 (!(bt304.1 == ((rd_T26 x293000 x4).f0)) || (!(bt304.2.1 == ((rd_T26 x293000 x4).f1)) || (!(bt304.2.2.1 == ((rd_T26 x293000 x4).f2)) || (!(bt304.2.2.2.1 == ((rd_T26 x293000 x4).f3)) || (!(bt304.2.2.2.2.1.toList == (((rd_T26 x293000 x4).f4).toList))))))) x293000 x293001) else (thresherlaw16_EntBytes.j2 k x3 x4 bt298.1 bt298.2 0 t303 true x293000 x293001))))) else (thresherlaw16_EntBytes.j4 k x3 x4 bt298.1 bt298.2 1 (⟨#[]⟩ : ByteArray) x293000 x293001)))) else (none)) else (none)) else (thresherlaw16_EntBytes.l2 k x3 0)
def thresherlaw16_EntBytes.j4 : Nat → List ByteArray → Int → ByteArray → Int → Int → ByteArray → List (S26) → ByteArray → Option (Bool)
 | 0, _, _, _, _, _, _, _, _ => none
 | k + 1, x3, x4, x5, x6, x7, x8, x293000, x293001 => if 0 ≤ x4 then (if x4 < (x293000.length : Int) then ((ent_Check.f k ((rd_T26 x293000 x4).f0) ((rd_T26 x293000 x4).f1) ((rd_T26 x293000 x4).f2) ((rd_T26 x293000 x4).f3) ((rd_T26 x293000 x4).f4)).bind fun t325 => ((thresherlaw16_num.f t325).bind fun t326 => (if t326 = x7 then ((thresherlaw16_num.f x6).bind fun t327 => (if t327 = x7 then (if x5.toList = x8.toList then (thresherlaw16_EntBytes.l0 k x3 (wrap64 (x4 + 1)) x293000 x293001) else (some false)) else (some false))) else (some false)))) else (none)) else (none)
def thresherlaw16_EntBytes.j2 : Nat → List ByteArray → Int → ByteArray → Int → Int → ByteArray → Bool → List (S26) → ByteArray → Option (Bool)
 | 0, _, _, _, _, _, _, _, _, _ => none
 | k + 1, x3, x4, x5, x6, x7, x8, x71, x293000, x293001 => if x71 = true then (some false) else (thresherlaw16_EntBytes.l1 k x3 x4 x5 x6 x7 x8 0 x293000 x293001)
def thresherlaw16_EntBytes.l1 : Nat → List ByteArray → Int → ByteArray → Int → Int → ByteArray → Int → List (S26) → ByteArray → Option (Bool)
 | 0, _, _, _, _, _, _, _, _, _ => none
 | k + 1, x3, x4, x5, x6, x7, x8, x11, x293000, x293001 => if x11 < (x8.size : Int) then (if x11 < 10 then (if x8.size ≤ 9223372036854775807 then ((some (bytesOf x8 : List Int)).bind fun y313 => (if 0 ≤ x11 then (if x11 < (y313.length : Int) then (if x11 ≤ (x8.size : Int) then ((some (([strOfNums (y313.set (x11 : Int).toNat (Go.bits .xor .u8 (rd y313 x11) ((wrap64 (1 + (Int.tmod (wrap64 ((wrap64 (x4 * 17)) + x11)) 255))) % 256))), x8.extract 0 (x11 : Int).toNat] : List ByteArray) : List ByteArray)).bind fun y318 => (if x3.length + y318.length < 8796093022208 then (thresherlaw16_EntBytes.l1 k (x3 ++ y318) x4 x5 x6 x7 x8 (wrap64 (x11 + 1)) x293000 x293001) else (none))) else (none)) else (none)) else (none))) else (none)) else (thresherlaw16_EntBytes.j4 k x3 x4 x5 x6 x7 x8 x293000 x293001)) else (thresherlaw16_EntBytes.j4 k x3 x4 x5 x6 x7 x8 x293000 x293001)
def thresherlaw16_EntBytes.l2 : Nat → List ByteArray → Int → Option (Bool)
 | 0, _, _ => none
 | k + 1, x3, x13 => if x13 < (x3.length : Int) then (if 0 ≤ x13 then ((ent_Take.f k (rdOf ByteArray.empty x3 x13)).bind fun bt330 => ((thresherref15_TakeEnt.f k (rdOf ByteArray.empty x3 x13)).bind fun bt338 => (if (!(bt330.1 == bt338.1) || (!(bt330.2.1 == bt338.2.1) || (!(bt330.2.2.1 == bt338.2.2.1) || (!(bt330.2.2.2.1 == bt338.2.2.2.1) || (!(bt330.2.2.2.2.1.toList == bt338.2.2.2.2.1.toList)))))) = true then (some false) else ((thresherlaw16_num.f bt330.2.2.2.2.2).bind fun t345 => (if t345 = bt338.2.2.2.2.2 then (thresherlaw16_EntBytes.l2 k x3 (wrap64 (x13 + 1))) else (some false)))))) else (none)) else ((thresherlaw16_wakes.f k).bind fun t328 => (some t328))
end
def thresherlaw16_EntBytes.f (k : Nat) (l0_0 : List (S26)) (a0_1 : ByteArray) : Option (Bool) := (thresherlaw16_Heavy.f k l0_0 a0_1).bind fun t293 => (if t293 = true then (some true) else (thresherlaw16_EntBytes.l0 k (([a0_1] : List ByteArray)) 0 l0_0 a0_1))
theorem thresherlaw16_EntBytes.mono_l : ∀ k, (∀ y0 y1 y2 y3, LeO (thresherlaw16_EntBytes.l0 k y0 y1 y2 y3) (thresherlaw16_EntBytes.l0 (k + 1) y0 y1 y2 y3)) ∧ (∀ y0 y1 y2 y3 y4, LeO (thresherlaw16_EntBytes.j1 k y0 y1 y2 y3 y4) (thresherlaw16_EntBytes.j1 (k + 1) y0 y1 y2 y3 y4)) ∧ (∀ y0 y1 y2 y3 y4 y5 y6 y7, LeO (thresherlaw16_EntBytes.j4 k y0 y1 y2 y3 y4 y5 y6 y7) (thresherlaw16_EntBytes.j4 (k + 1) y0 y1 y2 y3 y4 y5 y6 y7)) ∧ (∀ y0 y1 y2 y3 y4 y5 y6 y7 y8, LeO (thresherlaw16_EntBytes.j2 k y0 y1 y2 y3 y4 y5 y6 y7 y8) (thresherlaw16_EntBytes.j2 (k + 1) y0 y1 y2 y3 y4 y5 y6 y7 y8)) ∧ (∀ y0 y1 y2 y3 y4 y5 y6 y7 y8, LeO (thresherlaw16_EntBytes.l1 k y0 y1 y2 y3 y4 y5 y6 y7 y8) (thresherlaw16_EntBytes.l1 (k + 1) y0 y1 y2 y3 y4 y5 y6 y7 y8)) ∧ (∀ y0 y1, LeO (thresherlaw16_EntBytes.l2 k y0 y1) (thresherlaw16_EntBytes.l2 (k + 1) y0 y1))
 | 0 => ⟨fun _ _ _ _ r h => by simp [thresherlaw16_EntBytes.l0] at h, fun _ _ _ _ _ r h => by simp [thresherlaw16_EntBytes.j1] at h, fun _ _ _ _ _ _ _ _ r h => by simp [thresherlaw16_EntBytes.j4] at h, fun _ _ _ _ _ _ _ _ _ r h => by simp [thresherlaw16_EntBytes.j2] at h, fun _ _ _ _ _ _ _ _ _ r h => by simp [thresherlaw16_EntBytes.l1] at h, fun _ _ r h => by simp [thresherlaw16_EntBytes.l2] at h⟩
 | k + 1 => by
  obtain ⟨ih0, ih1, ih2, ih3, ih4, ih5⟩ := thresherlaw16_EntBytes.mono_l k
  refine ⟨?_, ?_, ?_, ?_, ?_, ?_⟩
  ·
   intro y0 y1 y2 y3
   unfold thresherlaw16_EntBytes.l0
   repeat' first
   | (with_reducible exact ih0 _ _ _ _)
   | (with_reducible exact ih1 _ _ _ _ _)
   | (with_reducible exact ih2 _ _ _ _ _ _ _ _)
   | (with_reducible exact ih3 _ _ _ _ _ _ _ _ _)
   | (with_reducible exact ih4 _ _ _ _ _ _ _ _ _)
   | (with_reducible exact ih5 _ _)
   | (with_reducible exact ent_Bytes.mono _ _ _ _ _ _)
   | (with_reducible exact ent_Check.mono _ _ _ _ _ _)
   | (with_reducible exact ent_Take.mono _ _)
   | (with_reducible exact thresherlaw16_Heavy.mono _ _ _)
   | (with_reducible exact thresherlaw16_wakes.mono _)
   | (with_reducible exact thresherref15_EntBytes.mono _ _ _ _ _ _)
   | (with_reducible exact thresherref15_Entry.mono _ _ _ _ _ _)
   | (with_reducible exact thresherref15_TakeEnt.mono _ _)
   | (with_reducible exact LeO.refl _)
   | (with_reducible exact LeO.none _)
   | (with_reducible refine LeO.ite ?_ ?_)
   | (with_reducible refine LeO.bind ?_ (fun _ => ?_))
   | exact ih0 _ _ _ _
   | exact ih1 _ _ _ _ _
   | exact ih2 _ _ _ _ _ _ _ _
   | exact ih3 _ _ _ _ _ _ _ _ _
   | exact ih4 _ _ _ _ _ _ _ _ _
   | exact ih5 _ _
   | exact ent_Bytes.mono _ _ _ _ _ _
   | exact ent_Check.mono _ _ _ _ _ _
   | exact ent_Take.mono _ _
   | exact thresherlaw16_Heavy.mono _ _ _
   | exact thresherlaw16_wakes.mono _
   | exact thresherref15_EntBytes.mono _ _ _ _ _ _
   | exact thresherref15_Entry.mono _ _ _ _ _ _
   | exact thresherref15_TakeEnt.mono _ _
   | exact LeO.none _
   | refine LeO.ite ?_ ?_
   | refine LeO.bind ?_ (fun _ => ?_)
  ·
   intro y0 y1 y2 y3 y4
   unfold thresherlaw16_EntBytes.j1
   repeat' first
   | (with_reducible exact ih0 _ _ _ _)
   | (with_reducible exact ih1 _ _ _ _ _)
   | (with_reducible exact ih2 _ _ _ _ _ _ _ _)
   | (with_reducible exact ih3 _ _ _ _ _ _ _ _ _)
   | (with_reducible exact ih4 _ _ _ _ _ _ _ _ _)
   | (with_reducible exact ih5 _ _)
   | (with_reducible exact ent_Bytes.mono _ _ _ _ _ _)
   | (with_reducible exact ent_Check.mono _ _ _ _ _ _)
   | (with_reducible exact ent_Take.mono _ _)
   | (with_reducible exact thresherlaw16_Heavy.mono _ _ _)
   | (with_reducible exact thresherlaw16_wakes.mono _)
   | (with_reducible exact thresherref15_EntBytes.mono _ _ _ _ _ _)
   | (with_reducible exact thresherref15_Entry.mono _ _ _ _ _ _)
   | (with_reducible exact thresherref15_TakeEnt.mono _ _)
   | (with_reducible exact LeO.refl _)
   | (with_reducible exact LeO.none _)
   | (with_reducible refine LeO.ite ?_ ?_)
   | (with_reducible refine LeO.bind ?_ (fun _ => ?_))
   | exact ih0 _ _ _ _
   | exact ih1 _ _ _ _ _
   | exact ih2 _ _ _ _ _ _ _ _
   | exact ih3 _ _ _ _ _ _ _ _ _
   | exact ih4 _ _ _ _ _ _ _ _ _
   | exact ih5 _ _
   | exact ent_Bytes.mono _ _ _ _ _ _
   | exact ent_Check.mono _ _ _ _ _ _
   | exact ent_Take.mono _ _
   | exact thresherlaw16_Heavy.mono _ _ _
   | exact thresherlaw16_wakes.mono _
   | exact thresherref15_EntBytes.mono _ _ _ _ _ _
   | exact thresherref15_Entry.mono _ _ _ _ _ _
   | exact thresherref15_TakeEnt.mono _ _
   | exact LeO.none _
   | refine LeO.ite ?_ ?_
   | refine LeO.bind ?_ (fun _ => ?_)
  ·
   intro y0 y1 y2 y3 y4 y5 y6 y7
   unfold thresherlaw16_EntBytes.j4
   repeat' first
   | (with_reducible exact ih0 _ _ _ _)
   | (with_reducible exact ih1 _ _ _ _ _)
   | (with_reducible exact ih2 _ _ _ _ _ _ _ _)
   | (with_reducible exact ih3 _ _ _ _ _ _ _ _ _)
   | (with_reducible exact ih4 _ _ _ _ _ _ _ _ _)
   | (with_reducible exact ih5 _ _)
   | (with_reducible exact ent_Bytes.mono _ _ _ _ _ _)
   | (with_reducible exact ent_Check.mono _ _ _ _ _ _)
   | (with_reducible exact ent_Take.mono _ _)
   | (with_reducible exact thresherlaw16_Heavy.mono _ _ _)
   | (with_reducible exact thresherlaw16_wakes.mono _)
   | (with_reducible exact thresherref15_EntBytes.mono _ _ _ _ _ _)
   | (with_reducible exact thresherref15_Entry.mono _ _ _ _ _ _)
   | (with_reducible exact thresherref15_TakeEnt.mono _ _)
   | (with_reducible exact LeO.refl _)
   | (with_reducible exact LeO.none _)
   | (with_reducible refine LeO.ite ?_ ?_)
   | (with_reducible refine LeO.bind ?_ (fun _ => ?_))
   | exact ih0 _ _ _ _
   | exact ih1 _ _ _ _ _
   | exact ih2 _ _ _ _ _ _ _ _
   | exact ih3 _ _ _ _ _ _ _ _ _
   | exact ih4 _ _ _ _ _ _ _ _ _
   | exact ih5 _ _
   | exact ent_Bytes.mono _ _ _ _ _ _
   | exact ent_Check.mono _ _ _ _ _ _
   | exact ent_Take.mono _ _
   | exact thresherlaw16_Heavy.mono _ _ _
   | exact thresherlaw16_wakes.mono _
   | exact thresherref15_EntBytes.mono _ _ _ _ _ _
   | exact thresherref15_Entry.mono _ _ _ _ _ _
   | exact thresherref15_TakeEnt.mono _ _
   | exact LeO.none _
   | refine LeO.ite ?_ ?_
   | refine LeO.bind ?_ (fun _ => ?_)
  ·
   intro y0 y1 y2 y3 y4 y5 y6 y7 y8
   unfold thresherlaw16_EntBytes.j2
   repeat' first
   | (with_reducible exact ih0 _ _ _ _)
   | (with_reducible exact ih1 _ _ _ _ _)
   | (with_reducible exact ih2 _ _ _ _ _ _ _ _)
   | (with_reducible exact ih3 _ _ _ _ _ _ _ _ _)
   | (with_reducible exact ih4 _ _ _ _ _ _ _ _ _)
   | (with_reducible exact ih5 _ _)
   | (with_reducible exact ent_Bytes.mono _ _ _ _ _ _)
   | (with_reducible exact ent_Check.mono _ _ _ _ _ _)
   | (with_reducible exact ent_Take.mono _ _)
   | (with_reducible exact thresherlaw16_Heavy.mono _ _ _)
   | (with_reducible exact thresherlaw16_wakes.mono _)
   | (with_reducible exact thresherref15_EntBytes.mono _ _ _ _ _ _)
   | (with_reducible exact thresherref15_Entry.mono _ _ _ _ _ _)
   | (with_reducible exact thresherref15_TakeEnt.mono _ _)
   | (with_reducible exact LeO.refl _)
   | (with_reducible exact LeO.none _)
   | (with_reducible refine LeO.ite ?_ ?_)
   | (with_reducible refine LeO.bind ?_ (fun _ => ?_))
   | exact ih0 _ _ _ _
   | exact ih1 _ _ _ _ _
   | exact ih2 _ _ _ _ _ _ _ _
   | exact ih3 _ _ _ _ _ _ _ _ _
   | exact ih4 _ _ _ _ _ _ _ _ _
   | exact ih5 _ _
   | exact ent_Bytes.mono _ _ _ _ _ _
   | exact ent_Check.mono _ _ _ _ _ _
   | exact ent_Take.mono _ _
   | exact thresherlaw16_Heavy.mono _ _ _
   | exact thresherlaw16_wakes.mono _
   | exact thresherref15_EntBytes.mono _ _ _ _ _ _
   | exact thresherref15_Entry.mono _ _ _ _ _ _
   | exact thresherref15_TakeEnt.mono _ _
   | exact LeO.none _
   | refine LeO.ite ?_ ?_
   | refine LeO.bind ?_ (fun _ => ?_)
  ·
   intro y0 y1 y2 y3 y4 y5 y6 y7 y8
   unfold thresherlaw16_EntBytes.l1
   repeat' first
   | (with_reducible exact ih0 _ _ _ _)
   | (with_reducible exact ih1 _ _ _ _ _)
   | (with_reducible exact ih2 _ _ _ _ _ _ _ _)
   | (with_reducible exact ih3 _ _ _ _ _ _ _ _ _)
   | (with_reducible exact ih4 _ _ _ _ _ _ _ _ _)
   | (with_reducible exact ih5 _ _)
   | (with_reducible exact ent_Bytes.mono _ _ _ _ _ _)
   | (with_reducible exact ent_Check.mono _ _ _ _ _ _)
   | (with_reducible exact ent_Take.mono _ _)
   | (with_reducible exact thresherlaw16_Heavy.mono _ _ _)
   | (with_reducible exact thresherlaw16_wakes.mono _)
   | (with_reducible exact thresherref15_EntBytes.mono _ _ _ _ _ _)
   | (with_reducible exact thresherref15_Entry.mono _ _ _ _ _ _)
   | (with_reducible exact thresherref15_TakeEnt.mono _ _)
   | (with_reducible exact LeO.refl _)
   | (with_reducible exact LeO.none _)
   | (with_reducible refine LeO.ite ?_ ?_)
   | (with_reducible refine LeO.bind ?_ (fun _ => ?_))
   | exact ih0 _ _ _ _
   | exact ih1 _ _ _ _ _
   | exact ih2 _ _ _ _ _ _ _ _
   | exact ih3 _ _ _ _ _ _ _ _ _
   | exact ih4 _ _ _ _ _ _ _ _ _
   | exact ih5 _ _
   | exact ent_Bytes.mono _ _ _ _ _ _
   | exact ent_Check.mono _ _ _ _ _ _
   | exact ent_Take.mono _ _
   | exact thresherlaw16_Heavy.mono _ _ _
   | exact thresherlaw16_wakes.mono _
   | exact thresherref15_EntBytes.mono _ _ _ _ _ _
   | exact thresherref15_Entry.mono _ _ _ _ _ _
   | exact thresherref15_TakeEnt.mono _ _
   | exact LeO.none _
   | refine LeO.ite ?_ ?_
   | refine LeO.bind ?_ (fun _ => ?_)
  ·
   intro y0 y1
   unfold thresherlaw16_EntBytes.l2
   repeat' first
   | (with_reducible exact ih0 _ _ _ _)
   | (with_reducible exact ih1 _ _ _ _ _)
   | (with_reducible exact ih2 _ _ _ _ _ _ _ _)
   | (with_reducible exact ih3 _ _ _ _ _ _ _ _ _)
   | (with_reducible exact ih4 _ _ _ _ _ _ _ _ _)
   | (with_reducible exact ih5 _ _)
   | (with_reducible exact ent_Bytes.mono _ _ _ _ _ _)
   | (with_reducible exact ent_Check.mono _ _ _ _ _ _)
   | (with_reducible exact ent_Take.mono _ _)
   | (with_reducible exact thresherlaw16_Heavy.mono _ _ _)
   | (with_reducible exact thresherlaw16_wakes.mono _)
   | (with_reducible exact thresherref15_EntBytes.mono _ _ _ _ _ _)
   | (with_reducible exact thresherref15_Entry.mono _ _ _ _ _ _)
   | (with_reducible exact thresherref15_TakeEnt.mono _ _)
   | (with_reducible exact LeO.refl _)
   | (with_reducible exact LeO.none _)
   | (with_reducible refine LeO.ite ?_ ?_)
   | (with_reducible refine LeO.bind ?_ (fun _ => ?_))
   | exact ih0 _ _ _ _
   | exact ih1 _ _ _ _ _
   | exact ih2 _ _ _ _ _ _ _ _
   | exact ih3 _ _ _ _ _ _ _ _ _
   | exact ih4 _ _ _ _ _ _ _ _ _
   | exact ih5 _ _
   | exact ent_Bytes.mono _ _ _ _ _ _
   | exact ent_Check.mono _ _ _ _ _ _
   | exact ent_Take.mono _ _
   | exact thresherlaw16_Heavy.mono _ _ _
   | exact thresherlaw16_wakes.mono _
   | exact thresherref15_EntBytes.mono _ _ _ _ _ _
   | exact thresherref15_Entry.mono _ _ _ _ _ _
   | exact thresherref15_TakeEnt.mono _ _
   | exact LeO.none _
   | refine LeO.ite ?_ ?_
   | refine LeO.bind ?_ (fun _ => ?_)
theorem thresherlaw16_EntBytes.mono : ∀ a0 a1 k, LeO (thresherlaw16_EntBytes.f k a0 a1) (thresherlaw16_EntBytes.f (k + 1) a0 a1) := by
 intro a0 a1 k
 obtain ⟨ih0, ih1, ih2, ih3, ih4, ih5⟩ := thresherlaw16_EntBytes.mono_l k
 unfold thresherlaw16_EntBytes.f
 repeat' first
   | (with_reducible exact ih0 _ _ _ _)
   | (with_reducible exact ih1 _ _ _ _ _)
   | (with_reducible exact ih2 _ _ _ _ _ _ _ _)
   | (with_reducible exact ih3 _ _ _ _ _ _ _ _ _)
   | (with_reducible exact ih4 _ _ _ _ _ _ _ _ _)
   | (with_reducible exact ih5 _ _)
   | (with_reducible exact ent_Bytes.mono _ _ _ _ _ _)
   | (with_reducible exact ent_Check.mono _ _ _ _ _ _)
   | (with_reducible exact ent_Take.mono _ _)
   | (with_reducible exact thresherlaw16_Heavy.mono _ _ _)
   | (with_reducible exact thresherlaw16_wakes.mono _)
   | (with_reducible exact thresherref15_EntBytes.mono _ _ _ _ _ _)
   | (with_reducible exact thresherref15_Entry.mono _ _ _ _ _ _)
   | (with_reducible exact thresherref15_TakeEnt.mono _ _)
   | (with_reducible exact LeO.refl _)
   | (with_reducible exact LeO.none _)
   | (with_reducible refine LeO.ite ?_ ?_)
   | (with_reducible refine LeO.bind ?_ (fun _ => ?_))
   | exact ih0 _ _ _ _
   | exact ih1 _ _ _ _ _
   | exact ih2 _ _ _ _ _ _ _ _
   | exact ih3 _ _ _ _ _ _ _ _ _
   | exact ih4 _ _ _ _ _ _ _ _ _
   | exact ih5 _ _
   | exact ent_Bytes.mono _ _ _ _ _ _
   | exact ent_Check.mono _ _ _ _ _ _
   | exact ent_Take.mono _ _
   | exact thresherlaw16_Heavy.mono _ _ _
   | exact thresherlaw16_wakes.mono _
   | exact thresherref15_EntBytes.mono _ _ _ _ _ _
   | exact thresherref15_Entry.mono _ _ _ _ _ _
   | exact thresherref15_TakeEnt.mono _ _
   | exact LeO.none _
   | refine LeO.ite ?_ ?_
   | refine LeO.bind ?_ (fun _ => ?_)
def thresherlaw16_EntBytes.T12 : Bool × List (List Nat × List Nat) := (true, [([], []), ([0], [0]), ([1], [1]), ([2, 1], [2]), ([3], [3]), ([3], [3]), ([5, 3], [3, 5]), ([3], [3]), ([6, 7, 3], [3, 6, 7]), ([8, 3], [3, 8]), ([4, 9, 3], [3, 4, 9]), ([3, 10], [3, 10])])
def thresherlaw16_EntBytes.B12 : List Nat := [0, 1, 3, 7, 15, 15, 47, 15, 239, 495, 1023, 2047]
theorem thresherlaw16_EntBytes.tab12 : rtab .any (opsOf Try.f6 12) = thresherlaw16_EntBytes.T12 := by kernel_rfl
theorem thresherlaw16_EntBytes.bits12 : waitsOk thresherlaw16_EntBytes.T12.2 thresherlaw16_EntBytes.B12 = true := by kernel_rfl
def thresherlaw16_EntBytes.T19 : Bool × List (List Nat × List Nat) := (true, [([], []), ([], []), ([1], [1]), ([], []), ([], []), ([3, 4], [3, 4]), ([2, 5], [2, 5]), ([0, 6], [0, 6]), ([7, 7, 0, 1, 2, 3, 4, 5, 6, 7], [0, 7])])
def thresherlaw16_EntBytes.B19 : List Nat := [0, 0, 2, 0, 0, 24, 62, 127, 255]
theorem thresherlaw16_EntBytes.tab19 : rtab .any (opsOf Try.f6 19) = thresherlaw16_EntBytes.T19 := by kernel_rfl
theorem thresherlaw16_EntBytes.bits19 : waitsOk thresherlaw16_EntBytes.T19.2 thresherlaw16_EntBytes.B19 = true := by kernel_rfl
set_option maxHeartbeats 8000000 in
set_option maxRecDepth 100000 in
theorem thresherlaw16_EntBytes.calls (k : Nat) (A0_0 : Option Addr) (c0_0 : Nat) (l0_0 : List (S26)) (a0_1 : ByteArray) (r : Bool) (w : World) (hr0_0 : Kd.C k26 w A0_0 l0_0.length l0_0) (hc0_0 : l0_0.length ≤ c0_0) (h : thresherlaw16_EntBytes.f k l0_0 a0_1 = some r) :
  Calls Try.prog 6 #[.agg #[.slice A0_0 l0_0.length c0_0, .string a0_1]] w fun e w' => e = .returned (.bool r) ∧ Below w.heap.size w w' := by
 have hu24 := Try.underlying24
 have hu26 := Try.underlying26
 have HR0_0 := Aside0.mk hr0_0
 have HC0_0 := Aside0.mk hc0_0
 clear hr0_0 hc0_0
 have HB := Aside0.mk (Below.refl w.heap.size w)
 have H : ((thresherlaw16_Heavy.f k l0_0 a0_1).bind fun t293 => (if t293 = true then (some true) else (thresherlaw16_EntBytes.l0 k (([a0_1] : List ByteArray)) 0 l0_0 a0_1))) = some r := h
 clear h
 replace H := Option.bind_eq_some_iff.mp H
 obtain ⟨t293, A20, H⟩ := H
 replace H : (if t293 = true then (some true) else (thresherlaw16_EntBytes.l0 k (([a0_1] : List ByteArray)) 0 l0_0 a0_1)) = some r := H
 have A2 := Aside0.mk A20
 clear A20
 by_cases c3 : t293 = true
 ·
  subst c3
  have H1 : (some true) = some r := by rw [if_pos rfl] at H; exact H
  clear H
  have H := H1
  clear H1
  obtain rfl := Option.some.inj H
  go_enter Try.func6, Try.ntmps6
  go_wp2_with (first | ((with_reducible refine gate_dst (N := 1) rfl ?_); refine box_event ?hg (N := 1) ?hd (cs := #[.slice A0_0 l0_0.length c0_0, .string a0_1]) (t := 24) ?hr ?_; (case hd => rfl); (case hg => rfl); (case hr => first | (go_simp; done) | (go_simp; rfl)); intro gb292 hg w4 hbox hb; have n0_ := Aside0.mk (below_step (by repeat (first | (with_reducible first | exact HB.out | apply below_alloc | apply pw_below_drewN | apply below_drew1) | exact HB.out)) hb); have n1_ := Aside0.mk (hbox); have n2_ := Aside0.mk ((by rw [hg]; exact (below_size (by repeat (first | (with_reducible first | exact HB.out | apply below_alloc | apply pw_below_drewN | apply below_drew1) | exact HB.out))) : w.heap.size ≤ gb292)); have n3_ := Aside0.mk ((by rw [hg]; exact (below_size (by repeat (first | (with_reducible first | exact HB.out | apply below_alloc | apply pw_below_drewN | apply below_drew1) | exact HB.out))) : w.heap.size ≤ gb292)); clear HB; have HB := n0_; have BK292 := n1_; have GW292 := n2_; have GE292 := n3_; clear n0_ n1_ n2_ n3_; clear hb hbox hg; obtain ⟨hcz5_0, hcz5_1⟩ := cells2 BK292.out; have hfz5_0 := fun i_ => blk_frozen BK292.out i_) | ((with_reducible refine gate_callee (f := 26) rfl ?_); refine goesL_ (some 19) rfl rfl Try.func26 (by kernel_rfl) rfl #[.agg #[.slice A0_0 l0_0.length c0_0, .string a0_1]] rfl (by (try simp only [List.map_toArray, List.map_cons, List.map_nil]); first | done | rfl | (simp only [List.length_drop, List.length_take]; rfl)) ?_; (with_reducible refine (thresherlaw16_Heavy.calls k _ _ l0_0 a0_1 true _ ?side1 ?side2 A2.out).mono ?_); (case side1 => repeat (first | exact (Kd.C_below HR0_0.out HB.out) | (with_reducible refine Kd.C_alloc ?_ _) | (with_reducible refine Kd.C_drewN ?_ _) | (with_reducible refine Kd.C_drew ?_))); (case side2 => exact HC0_0.out); rintro e w6 ⟨rfl, hb⟩; refine ⟨_, rfl, ?_⟩; have n0_ := Aside0.mk (blk_below (g := gb292) (o := .cells #[.slice A0_0 l0_0.length c0_0, .string a0_1] 24 (0, 0)) (by (with_reducible repeat (first | refine blk_drewN ?_ _ | refine blk_drew ?_ | refine blk_alloc ?_ _)); exact BK292.out) hb); have n1_ := Aside0.mk (below_step (by repeat (first | (with_reducible first | exact HB.out | apply below_alloc | apply pw_below_drewN | apply below_drew1 | refine below_set ?_ GE292.out) | exact HB.out)) hb); clear BK292; clear HB; have BK292 := n0_; have HB := n1_; clear n0_ n1_; (try clear hb); (try clear hb2); (try clear hk); (try clear hi)))
  go_ret
  exact ⟨by first | rfl | (simp [errW_none, errW_some] <;> rfl) | (simp [*, errW_none, errW_some] <;> rfl), by repeat (first | (with_reducible first | exact HB.out | apply below_alloc | apply pw_below_drewN | apply below_drew1 | refine below_set ?_ GE292.out) | exact HB.out)⟩
 ·
  replace c3 := Bool.eq_false_iff.mpr c3
  subst c3
  have H1 : (thresherlaw16_EntBytes.l0 k (([a0_1] : List ByteArray)) 0 l0_0 a0_1) = some r := by rw [if_neg (show ¬ (false = true) by decide)] at H; exact H
  clear H
  have H := H1
  clear H1
  obtain ⟨y294, hy294⟩ : ∃ y_ : List ByteArray, y_ = (([a0_1] : List ByteArray)) := ⟨_, rfl⟩
  replace H : (thresherlaw16_EntBytes.l0 k y294 0 l0_0 a0_1) = some r := by first | (rw [hy294]; with_reducible exact H) | (have H2_ := (Option.bind_some _ _).symm.trans H; rw [hy294]; with_reducible exact H2_) | (have H2_ := (Option.bind_some _ _).symm.trans H; with_reducible exact H2_) | with_reducible exact H | (rw [hy294]; exact H) | exact H
  have Ny294 := Aside0.mk hy294
  clear hy294
  have H' := Aside0.mk H
  clear H
  go_enter Try.func6, Try.ntmps6
  go_wp2_with (first | ((with_reducible refine gate_dst (N := 1) rfl ?_); refine box_event ?hg (N := 1) ?hd (cs := #[.slice A0_0 l0_0.length c0_0, .string a0_1]) (t := 24) ?hr ?_; (case hd => rfl); (case hg => rfl); (case hr => first | (go_simp; done) | (go_simp; rfl)); intro gb292 hg w7 hbox hb; have n0_ := Aside0.mk (below_step (by repeat (first | (with_reducible first | exact HB.out | apply below_alloc | apply pw_below_drewN | apply below_drew1) | exact HB.out)) hb); have n1_ := Aside0.mk (hbox); have n2_ := Aside0.mk ((by rw [hg]; exact (below_size (by repeat (first | (with_reducible first | exact HB.out | apply below_alloc | apply pw_below_drewN | apply below_drew1) | exact HB.out))) : w.heap.size ≤ gb292)); have n3_ := Aside0.mk ((by rw [hg]; exact (below_size (by repeat (first | (with_reducible first | exact HB.out | apply below_alloc | apply pw_below_drewN | apply below_drew1) | exact HB.out))) : w.heap.size ≤ gb292)); clear HB; have HB := n0_; have BK292 := n1_; have GW292 := n2_; have GE292 := n3_; clear n0_ n1_ n2_ n3_; clear hb hbox hg; obtain ⟨hcz8_0, hcz8_1⟩ := cells2 BK292.out; have hfz8_0 := fun i_ => blk_frozen BK292.out i_) | ((with_reducible refine gate_callee (f := 26) rfl ?_); refine goesL_ (some 19) rfl rfl Try.func26 (by kernel_rfl) rfl #[.agg #[.slice A0_0 l0_0.length c0_0, .string a0_1]] rfl (by (try simp only [List.map_toArray, List.map_cons, List.map_nil]); first | done | rfl | (simp only [List.length_drop, List.length_take]; rfl)) ?_; (with_reducible refine (thresherlaw16_Heavy.calls k _ _ l0_0 a0_1 false _ ?side1 ?side2 A2.out).mono ?_); (case side1 => repeat (first | exact (Kd.C_below HR0_0.out HB.out) | (with_reducible refine Kd.C_alloc ?_ _) | (with_reducible refine Kd.C_drewN ?_ _) | (with_reducible refine Kd.C_drew ?_))); (case side2 => exact HC0_0.out); rintro e w9 ⟨rfl, hb⟩; refine ⟨_, rfl, ?_⟩; have n0_ := Aside0.mk (blk_below (g := gb292) (o := .cells #[.slice A0_0 l0_0.length c0_0, .string a0_1] 24 (0, 0)) (by (with_reducible repeat (first | refine blk_drewN ?_ _ | refine blk_drew ?_ | refine blk_alloc ?_ _)); exact BK292.out) hb); have n1_ := Aside0.mk (below_step (by repeat (first | (with_reducible first | exact HB.out | apply below_alloc | apply pw_below_drewN | apply below_drew1 | refine below_set ?_ GE292.out) | exact HB.out)) hb); clear BK292; clear HB; have BK292 := n0_; have HB := n1_; clear n0_ n1_; (try clear hb); (try clear hb2); (try clear hk); (try clear hi); obtain ⟨hcz10_0, hcz10_1⟩ := cells2 BK292.out; have hfz10_0 := fun i_ => blk_frozen BK292.out i_) | ((with_reducible refine gate_dst (N := 22) rfl ?_); refine Kd.R_lit Kd.string _ 9 ?hg (N := 22) ?hd (xs := ([a0_1] : List ByteArray)) (inner := [.string a0_1]) (ok := fun _ => True) (okp := fun _ => True) ?hr ?hp (fun _ hk => hk) trivial (Below.refl _ _) (Nat.le_refl _) (by simp) ?_; (case hd => rfl); (case hg => rfl); (case hr => first | (go_simp; done) | (go_simp; rfl)); (case hp => exact (Reps.one (show Kd.M Kd.string _ _ _ a0_1 [.string a0_1] from rfl) (Reps.none _ _))); intro v295 w11 ho12 hb hg_ hnew_; clear hg_ hnew_; (first | rw [← Ny294.out] at ho12 | (simp only [Int.reduceToNat] at ho12; rw [← Ny294.out] at ho12)); have n0_ := Aside0.mk (Kd.R_lower ho12 (below_size (by repeat (first | (with_reducible first | exact HB.out | apply below_alloc | apply pw_below_drewN | apply below_drew1 | refine below_set ?_ GE292.out) | exact HB.out)))); have n1_ := Aside0.mk (blk_below (g := gb292) (o := .cells #[.slice A0_0 l0_0.length c0_0, .string a0_1] 24 (0, 0)) (by (with_reducible repeat (first | refine blk_drewN ?_ _ | refine blk_drew ?_ | refine blk_alloc ?_ _)); exact BK292.out) hb); have n2_ := Aside0.mk (below_step (by repeat (first | (with_reducible first | exact HB.out | apply below_alloc | apply pw_below_drewN | apply below_drew1 | refine below_set ?_ GE292.out) | exact HB.out)) hb); clear BK292; clear HB; have HO296 := n0_; have BK292 := n1_; have HB := n2_; clear n0_ n1_ n2_; clear hb ho12))
  go_loopg [3, 4] k (fun kq v3 v4 w' => ∃ (x3_1 : List ByteArray) (x4_1 : Int), v4 = .int .i64 x4_1 ∧ Aside0 (thresherlaw16_EntBytes.l0 kq x3_1 x4_1 l0_0 a0_1 = some r) ∧ Aside0 (kq ≤ k) ∧ Aside0 (Kd.R Kd.string 9 w' w.heap.size (fun _ => True) v3 x3_1) ∧ Aside0 (w'.heap[gb292]? = some (.cells #[(.slice A0_0 l0_0.length c0_0), .string a0_1] 24 (0, 0))) ∧ Aside0 (Below w.heap.size w w'))
  case atStart => exact ⟨(y294), (0), (by first | rfl | (simp; done) | (simp [*]; done)), H', ⟨Nat.le_refl _⟩, ⟨by (with_reducible repeat (first | apply Kd.R_alloc | apply Kd.R_drewN | apply Kd.R_drew)); exact HO296.out⟩, ⟨by (with_reducible repeat (first | refine blk_drewN ?_ _ | refine blk_drew ?_ | refine blk_alloc ?_ _)); exact BK292.out⟩, ⟨by repeat (first | (with_reducible first | exact HB.out | apply below_alloc | apply pw_below_drewN | apply below_drew1 | refine below_set ?_ GE292.out) | exact HB.out)⟩⟩
  case round =>
   clear H'
   (try clear c2); (try clear p2); (try clear c3); (try clear c6); (try clear hcz10_0); (try clear hcz10_1); (try clear hcz5_0); (try clear hcz5_1); (try clear hcz8_0); (try clear hcz8_1); (try clear hfz10_0); (try clear hfz5_0); (try clear hfz8_0)
   obtain ⟨x3_1, x4_1, rfl, HA, HK1, HO_3, BK292, HB⟩ := hrel
   cases gk with
   | zero => exact absurd HA.out (by simp [thresherlaw16_EntBytes.l0])
   | succ k1 =>
    have H := HA.out
    clear HA
    simp only [thresherlaw16_EntBytes.l0] at H
    have HC13 := Aside0.mk H
    clear H
    go_upto_region 5 with (fail)
    go_cut [31] (fun v31 wc => ∃ (kq : Nat) (x31_12 : Bool), v31 = .bool x31_12 ∧ Aside0 (thresherlaw16_EntBytes.j1 kq x3_1 x4_1 x31_12 l0_0 a0_1 = some r) ∧ Aside0 (kq ≤ k1) ∧ Aside0 (Kd.R Kd.string 9 wc w.heap.size (fun _ => True) u3 x3_1) ∧ Aside0 (wc.heap[gb292]? = some (.cells #[(.slice A0_0 l0_0.length c0_0), .string a0_1] 24 (0, 0))) ∧ Aside0 (Below w.heap.size w wc))
    case first =>
     have H := HC13.out
     clear HC13
     by_cases c14 : x4_1 < (l0_0.length : Int)
     ·
      rw [if_pos c14] at H
      have c14b0 : decide (x4_1 < (l0_0.length : Int)) = true := decide_eq_true c14
      clear c14
      (first | rw [c14b0] | (simp only [i64_w, i32_w]; rw [c14b0]) | skip)
      have H' := Aside0.mk H
      clear H
      obtain ⟨hcz15_0, hcz15_1⟩ := cells2 BK292.out
      have hfz15_0 := fun i_ => blk_frozen BK292.out i_
      go_wp2
      go_meet
      case rel => exact ⟨_, (decide (x4_1 < 12)), (by first | rfl | (simp; done) | (simp [*]; done)), H', ⟨by have := HK1.out; first | omega | exact Nat.le_refl _⟩, ⟨by (with_reducible repeat (first | apply Kd.R_alloc | apply Kd.R_drewN | apply Kd.R_drew)); exact HO_3.out⟩, ⟨by (with_reducible repeat (first | refine blk_drewN ?_ _ | refine blk_drew ?_ | refine blk_alloc ?_ _)); exact BK292.out⟩, ⟨by repeat (first | (with_reducible first | exact HB.out | apply below_alloc | apply pw_below_drewN | apply below_drew1 | refine below_set ?_ GE292.out) | exact HB.out)⟩⟩
     ·
      rw [if_neg c14] at H
      have c14b0 : decide (x4_1 < (l0_0.length : Int)) = false := decide_eq_false c14
      clear c14
      (first | rw [c14b0] | (simp only [i64_w, i32_w]; rw [c14b0]) | skip)
      have H' := Aside0.mk H
      clear H
      obtain ⟨hcz16_0, hcz16_1⟩ := cells2 BK292.out
      have hfz16_0 := fun i_ => blk_frozen BK292.out i_
      go_wp2
      go_meet
      case rel => exact ⟨_, (false), (by first | rfl | (simp; done) | (simp [*]; done)), H', ⟨by have := HK1.out; first | omega | exact Nat.le_refl _⟩, ⟨by (with_reducible repeat (first | apply Kd.R_alloc | apply Kd.R_drewN | apply Kd.R_drew)); exact HO_3.out⟩, ⟨by (with_reducible repeat (first | refine blk_drewN ?_ _ | refine blk_drew ?_ | refine blk_alloc ?_ _)); exact BK292.out⟩, ⟨by repeat (first | (with_reducible first | exact HB.out | apply below_alloc | apply pw_below_drewN | apply below_drew1 | refine below_set ?_ GE292.out) | exact HB.out)⟩⟩
    case rest =>
     clear HC13
     (try clear c1); (try clear c2); (try clear p2); (try clear c3); (try clear c6); (try clear c14); (try clear c14b0); (try clear hcz10_0); (try clear hcz10_1); (try clear hcz15_0); (try clear hcz15_1); (try clear hcz16_0); (try clear hcz16_1); (try clear hcz5_0); (try clear hcz5_1); (try clear hcz8_0); (try clear hcz8_1); (try clear hfz10_0); (try clear hfz15_0); (try clear hfz16_0); (try clear hfz5_0); (try clear hfz8_0); (try clear p2)
     obtain ⟨kq, x31_12, rfl, HA, HJ12, HO_3, BK292, HB⟩ := hcut
     cases kq with
     | zero => exact absurd HA.out (by simp [thresherlaw16_EntBytes.j1])
     | succ kj12 =>
      have H := HA.out
      clear HA
      simp only [thresherlaw16_EntBytes.j1] at H
      by_cases c17 : x31_12 = true
      ·
       subst c17
       have H1 : (if 0 ≤ x4_1 then (if x4_1 < (l0_0.length : Int) then ((ent_Bytes.f kj12 ((rd_T26 l0_0 x4_1).f0) ((rd_T26 l0_0 x4_1).f1) ((rd_T26 l0_0 x4_1).f2) ((rd_T26 l0_0 x4_1).f3) ((rd_T26 l0_0 x4_1).f4)).bind fun bt298 => ((thresherref15_Entry.f kj12 ((rd_T26 l0_0 x4_1).f0) ((rd_T26 l0_0 x4_1).f1) ((rd_T26 l0_0 x4_1).f2) ((rd_T26 l0_0 x4_1).f3) ((rd_T26 l0_0 x4_1).f4)).bind fun t301 => (if t301 = true then ((thresherref15_EntBytes.f kj12 ((rd_T26 l0_0 x4_1).f0) ((rd_T26 l0_0 x4_1).f1) ((rd_T26 l0_0 x4_1).f2) ((rd_T26 l0_0 x4_1).f3) ((rd_T26 l0_0 x4_1).f4)).bind fun t303 => ((ent_Take.f kj12 t303).bind fun bt304 => ((thresherlaw16_num.f bt304.2.2.2.2.2).bind fun t311 => (if t311 = 0 then (thresherlaw16_EntBytes.j2 kj12 x3_1 x4_1 bt298.1 bt298.2 0 t303 (!(bt304.1 == ((rd_T26 l0_0 x4_1).f0)) || (!(bt304.2.1 == ((rd_T26 l0_0 x4_1).f1)) || (!(bt304.2.2.1 == ((rd_T26 l0_0 x4_1).f2)) || (!(bt304.2.2.2.1 == ((rd_T26 l0_0 x4_1).f3)) || (!(bt304.2.2.2.2.1.toList == (((rd_T26 l0_0 x4_1).f4).toList))))))) l0_0 a0_1) else (thresherlaw16_EntBytes.j2 kj12 x3_1 x4_1 bt298.1 bt298.2 0 t303 true l0_0 a0_1))))) else (thresherlaw16_EntBytes.j4 kj12 x3_1 x4_1 bt298.1 bt298.2 1 (⟨#[]⟩ : ByteArray) l0_0 a0_1)))) else (none)) else (none)) = some r := by rw [if_pos rfl] at H; exact H
       clear H
       have H := H1
       clear H1
       by_cases c18 : 0 ≤ x4_1
       ·
        rw [if_pos c18] at H
        have c18b0 : decide (0 ≤ x4_1) = true := decide_eq_true c18
        clear c18
        by_cases c19 : x4_1 < (l0_0.length : Int)
        ·
         rw [if_pos c19] at H
         have c19b0 : decide (x4_1 < (l0_0.length : Int)) = true := decide_eq_true c19
         clear c19
         replace H := Option.bind_eq_some_iff.mp H
         obtain ⟨⟨t298, t299⟩, A200, H⟩ := H
         replace H : ((thresherref15_Entry.f kj12 ((rd_T26 l0_0 x4_1).f0) ((rd_T26 l0_0 x4_1).f1) ((rd_T26 l0_0 x4_1).f2) ((rd_T26 l0_0 x4_1).f3) ((rd_T26 l0_0 x4_1).f4)).bind fun t301 => (if t301 = true then ((thresherref15_EntBytes.f kj12 ((rd_T26 l0_0 x4_1).f0) ((rd_T26 l0_0 x4_1).f1) ((rd_T26 l0_0 x4_1).f2) ((rd_T26 l0_0 x4_1).f3) ((rd_T26 l0_0 x4_1).f4)).bind fun t303 => ((ent_Take.f kj12 t303).bind fun bt304 => ((thresherlaw16_num.f bt304.2.2.2.2.2).bind fun t311 => (if t311 = 0 then (thresherlaw16_EntBytes.j2 kj12 x3_1 x4_1 t298 t299 0 t303 (!(bt304.1 == ((rd_T26 l0_0 x4_1).f0)) || (!(bt304.2.1 == ((rd_T26 l0_0 x4_1).f1)) || (!(bt304.2.2.1 == ((rd_T26 l0_0 x4_1).f2)) || (!(bt304.2.2.2.1 == ((rd_T26 l0_0 x4_1).f3)) || (!(bt304.2.2.2.2.1.toList == (((rd_T26 l0_0 x4_1).f4).toList))))))) l0_0 a0_1) else (thresherlaw16_EntBytes.j2 kj12 x3_1 x4_1 t298 t299 0 t303 true l0_0 a0_1))))) else (thresherlaw16_EntBytes.j4 kj12 x3_1 x4_1 t298 t299 1 (⟨#[]⟩ : ByteArray) l0_0 a0_1))) = some r := H
         have A20 := Aside0.mk A200
         clear A200
         replace H := Option.bind_eq_some_iff.mp H
         obtain ⟨t301, A210, H⟩ := H
         replace H : (if t301 = true then ((thresherref15_EntBytes.f kj12 ((rd_T26 l0_0 x4_1).f0) ((rd_T26 l0_0 x4_1).f1) ((rd_T26 l0_0 x4_1).f2) ((rd_T26 l0_0 x4_1).f3) ((rd_T26 l0_0 x4_1).f4)).bind fun t303 => ((ent_Take.f kj12 t303).bind fun bt304 => ((thresherlaw16_num.f bt304.2.2.2.2.2).bind fun t311 => (if t311 = 0 then (thresherlaw16_EntBytes.j2 kj12 x3_1 x4_1 t298 t299 0 t303 (!(bt304.1 == ((rd_T26 l0_0 x4_1).f0)) || (!(bt304.2.1 == ((rd_T26 l0_0 x4_1).f1)) || (!(bt304.2.2.1 == ((rd_T26 l0_0 x4_1).f2)) || (!(bt304.2.2.2.1 == ((rd_T26 l0_0 x4_1).f3)) || (!(bt304.2.2.2.2.1.toList == (((rd_T26 l0_0 x4_1).f4).toList))))))) l0_0 a0_1) else (thresherlaw16_EntBytes.j2 kj12 x3_1 x4_1 t298 t299 0 t303 true l0_0 a0_1))))) else (thresherlaw16_EntBytes.j4 kj12 x3_1 x4_1 t298 t299 1 (⟨#[]⟩ : ByteArray) l0_0 a0_1)) = some r := H
         have A21 := Aside0.mk A210
         clear A210
         have HC22 := Aside0.mk H
         clear H
         obtain ⟨hcz23_0, hcz23_1⟩ := cells2 BK292.out
         have hfz23_0 := fun i_ => blk_frozen BK292.out i_
         have p297 : 0 ≤ (x4_1 : Int) := of_decide_eq_true (by first | (with_reducible assumption) | assumption)
         have q297 : x4_1 < (l0_0.length : Int) := of_decide_eq_true (by first | (with_reducible assumption) | assumption)
         obtain ⟨ad297, e297, hx297_0, hx297_1, hx297_2, hx297_3, hx297_4⟩ := at_T26 HR0_0.out x4_1 p297 q297
         cases e297
         replace hx297_0 := (HB.out.cell (World.block_lt_of_cell? w _ hx297_0)).trans hx297_0
         replace hx297_1 := (HB.out.cell (World.block_lt_of_cell? w _ hx297_1)).trans hx297_1
         replace hx297_2 := (HB.out.cell (World.block_lt_of_cell? w _ hx297_2)).trans hx297_2
         replace hx297_3 := (HB.out.cell (World.block_lt_of_cell? w _ hx297_3)).trans hx297_3
         replace hx297_4 := (HB.out.cell (World.block_lt_of_cell? w _ hx297_4)).trans hx297_4
         replace p297 := eq_true p297
         replace q297 := eq_true q297
         go_upto_if 48 with (first | ((with_reducible refine gate_callee (f := 27) rfl ?_); refine goesL_ (some 40) rfl rfl Try.func27 (by kernel_rfl) rfl #[.agg #[.int .i64 ((rd_T26 l0_0 x4_1).f0), .int .i64 ((rd_T26 l0_0 x4_1).f1), .int .i64 ((rd_T26 l0_0 x4_1).f2), .int .i64 ((rd_T26 l0_0 x4_1).f3), .string ((rd_T26 l0_0 x4_1).f4)]] rfl (by (try simp only [List.map_toArray, List.map_cons, List.map_nil]); first | done | rfl | (simp only [List.length_drop, List.length_take]; rfl)) ?_; (with_reducible refine (ent_Bytes.calls kj12 ((rd_T26 l0_0 x4_1).f0) ((rd_T26 l0_0 x4_1).f1) ((rd_T26 l0_0 x4_1).f2) ((rd_T26 l0_0 x4_1).f3) ((rd_T26 l0_0 x4_1).f4) t298 t299 _ A20.out).mono ?_); rintro e w24 ⟨rfl, hb⟩; refine ⟨_, rfl, ?_⟩; have n0_ := Aside0.mk (Kd.R_below (by (with_reducible repeat (first | apply Kd.R_alloc | apply Kd.R_drewN | apply Kd.R_drew)); exact HO_3.out) hb); have n1_ := Aside0.mk (blk_below (g := gb292) (o := .cells #[.slice (some ad297) l0_0.length c0_0, .string a0_1] 24 (0, 0)) (by (with_reducible repeat (first | refine blk_drewN ?_ _ | refine blk_drew ?_ | refine blk_alloc ?_ _)); exact BK292.out) hb); have n2_ := Aside0.mk (below_step (by repeat (first | (with_reducible first | exact HB.out | apply below_alloc | apply pw_below_drewN | apply below_drew1 | refine below_set ?_ GE292.out) | exact HB.out)) hb); clear HO_3; clear BK292; clear HB; have HO_3 := n0_; have BK292 := n1_; have HB := n2_; clear n0_ n1_ n2_; (try clear hb); (try clear hb2); (try clear hk); (try clear hi); obtain ⟨hcz25_0, hcz25_1⟩ := cells2 BK292.out; have hfz25_0 := fun i_ => blk_frozen BK292.out i_; have p300 : 0 ≤ (x4_1 : Int) := of_decide_eq_true (by first | (with_reducible assumption) | assumption); have q300 : x4_1 < (l0_0.length : Int) := of_decide_eq_true (by first | (with_reducible assumption) | assumption); obtain ⟨ad300, e300, hx300_0, hx300_1, hx300_2, hx300_3, hx300_4⟩ := at_T26 HR0_0.out x4_1 p300 q300; obtain rfl : ad297 = ad300 := (by injection e300); replace hx300_0 := (HB.out.cell (World.block_lt_of_cell? w _ hx300_0)).trans hx300_0; replace hx300_1 := (HB.out.cell (World.block_lt_of_cell? w _ hx300_1)).trans hx300_1; replace hx300_2 := (HB.out.cell (World.block_lt_of_cell? w _ hx300_2)).trans hx300_2; replace hx300_3 := (HB.out.cell (World.block_lt_of_cell? w _ hx300_3)).trans hx300_3; replace hx300_4 := (HB.out.cell (World.block_lt_of_cell? w _ hx300_4)).trans hx300_4; replace p300 := eq_true p300; replace q300 := eq_true q300) | ((with_reducible refine gate_callee (f := 28) rfl ?_); refine goesL_ (some 48) rfl rfl Try.func28 (by kernel_rfl) rfl #[.agg #[.int .i64 ((rd_T26 l0_0 x4_1).f0), .int .i64 ((rd_T26 l0_0 x4_1).f1), .int .i64 ((rd_T26 l0_0 x4_1).f2), .int .i64 ((rd_T26 l0_0 x4_1).f3), .string ((rd_T26 l0_0 x4_1).f4)]] rfl (by (try simp only [List.map_toArray, List.map_cons, List.map_nil]); first | done | rfl | (simp only [List.length_drop, List.length_take]; rfl)) ?_; (with_reducible refine (thresherref15_Entry.calls kj12 ((rd_T26 l0_0 x4_1).f0) ((rd_T26 l0_0 x4_1).f1) ((rd_T26 l0_0 x4_1).f2) ((rd_T26 l0_0 x4_1).f3) ((rd_T26 l0_0 x4_1).f4) t301 _ A21.out).mono ?_); rintro e w26 ⟨rfl, hb⟩; refine ⟨_, rfl, ?_⟩; have n0_ := Aside0.mk (Kd.R_below (by (with_reducible repeat (first | apply Kd.R_alloc | apply Kd.R_drewN | apply Kd.R_drew)); exact HO_3.out) hb); have n1_ := Aside0.mk (blk_below (g := gb292) (o := .cells #[.slice (some ad297) l0_0.length c0_0, .string a0_1] 24 (0, 0)) (by (with_reducible repeat (first | refine blk_drewN ?_ _ | refine blk_drew ?_ | refine blk_alloc ?_ _)); exact BK292.out) hb); have n2_ := Aside0.mk (below_step (by repeat (first | (with_reducible first | exact HB.out | apply below_alloc | apply pw_below_drewN | apply below_drew1 | refine below_set ?_ GE292.out) | exact HB.out)) hb); clear HO_3; clear BK292; clear HB; have HO_3 := n0_; have BK292 := n1_; have HB := n2_; clear n0_ n1_ n2_; (try clear hb); (try clear hb2); (try clear hk); (try clear hi)))
         (try simp only [Act.put, List.setIfInBounds_toArray, List.set_cons_zero, List.set_cons_succ])
         go_cut [3, 7, 8] (fun v3 v7 v8 wc => ∃ (kq : Nat) (x3_21 : List ByteArray) (x7_21 : Int) (x8_21 : ByteArray), v7 = .int .i64 x7_21 ∧ v8 = .string x8_21 ∧ Aside0 (thresherlaw16_EntBytes.j4 kq x3_21 x4_1 t298 t299 x7_21 x8_21 l0_0 a0_1 = some r) ∧ Aside0 (kq ≤ kj12) ∧ Aside0 (Kd.R Kd.string 9 wc w.heap.size (fun _ => True) v3 x3_21) ∧ Aside0 (wc.heap[gb292]? = some (.cells #[(.slice (some ad297) l0_0.length c0_0), .string a0_1] 24 (0, 0))) ∧ Aside0 (Below w.heap.size w wc))
         case first =>
          have H := HC22.out
          clear HC22
          by_cases c27 : t301 = true
          ·
           subst c27
           have H1 : ((thresherref15_EntBytes.f kj12 ((rd_T26 l0_0 x4_1).f0) ((rd_T26 l0_0 x4_1).f1) ((rd_T26 l0_0 x4_1).f2) ((rd_T26 l0_0 x4_1).f3) ((rd_T26 l0_0 x4_1).f4)).bind fun t303 => ((ent_Take.f kj12 t303).bind fun bt304 => ((thresherlaw16_num.f bt304.2.2.2.2.2).bind fun t311 => (if t311 = 0 then (thresherlaw16_EntBytes.j2 kj12 x3_1 x4_1 t298 t299 0 t303 (!(bt304.1 == ((rd_T26 l0_0 x4_1).f0)) || (!(bt304.2.1 == ((rd_T26 l0_0 x4_1).f1)) || (!(bt304.2.2.1 == ((rd_T26 l0_0 x4_1).f2)) || (!(bt304.2.2.2.1 == ((rd_T26 l0_0 x4_1).f3)) || (!(bt304.2.2.2.2.1.toList == (((rd_T26 l0_0 x4_1).f4).toList))))))) l0_0 a0_1) else (thresherlaw16_EntBytes.j2 kj12 x3_1 x4_1 t298 t299 0 t303 true l0_0 a0_1))))) = some r := by rw [if_pos rfl] at H; exact H
           clear H
           have H := H1
           clear H1
           replace H := Option.bind_eq_some_iff.mp H
           obtain ⟨t303, A280, H⟩ := H
           replace H : ((ent_Take.f kj12 t303).bind fun bt304 => ((thresherlaw16_num.f bt304.2.2.2.2.2).bind fun t311 => (if t311 = 0 then (thresherlaw16_EntBytes.j2 kj12 x3_1 x4_1 t298 t299 0 t303 (!(bt304.1 == ((rd_T26 l0_0 x4_1).f0)) || (!(bt304.2.1 == ((rd_T26 l0_0 x4_1).f1)) || (!(bt304.2.2.1 == ((rd_T26 l0_0 x4_1).f2)) || (!(bt304.2.2.2.1 == ((rd_T26 l0_0 x4_1).f3)) || (!(bt304.2.2.2.2.1.toList == (((rd_T26 l0_0 x4_1).f4).toList))))))) l0_0 a0_1) else (thresherlaw16_EntBytes.j2 kj12 x3_1 x4_1 t298 t299 0 t303 true l0_0 a0_1)))) = some r := H
           have A28 := Aside0.mk A280
           clear A280
           replace H := Option.bind_eq_some_iff.mp H
           obtain ⟨⟨t304, t305, t306, t307, t308, t309⟩, A290, H⟩ := H
           replace H : ((thresherlaw16_num.f t309).bind fun t311 => (if t311 = 0 then (thresherlaw16_EntBytes.j2 kj12 x3_1 x4_1 t298 t299 0 t303 (!(t304 == ((rd_T26 l0_0 x4_1).f0)) || (!(t305 == ((rd_T26 l0_0 x4_1).f1)) || (!(t306 == ((rd_T26 l0_0 x4_1).f2)) || (!(t307 == ((rd_T26 l0_0 x4_1).f3)) || (!(t308.toList == (((rd_T26 l0_0 x4_1).f4).toList))))))) l0_0 a0_1) else (thresherlaw16_EntBytes.j2 kj12 x3_1 x4_1 t298 t299 0 t303 true l0_0 a0_1))) = some r := H
           have A29 := Aside0.mk A290
           clear A290
           have HC30 := Aside0.mk H
           clear H
           obtain ⟨hcz31_0, hcz31_1⟩ := cells2 BK292.out
           have hfz31_0 := fun i_ => blk_frozen BK292.out i_
           have p302 : 0 ≤ (x4_1 : Int) := of_decide_eq_true (by first | (with_reducible assumption) | assumption)
           have q302 : x4_1 < (l0_0.length : Int) := of_decide_eq_true (by first | (with_reducible assumption) | assumption)
           obtain ⟨ad302, e302, hx302_0, hx302_1, hx302_2, hx302_3, hx302_4⟩ := at_T26 HR0_0.out x4_1 p302 q302
           obtain rfl : ad297 = ad302 := (by injection e302)
           replace hx302_0 := (HB.out.cell (World.block_lt_of_cell? w _ hx302_0)).trans hx302_0
           replace hx302_1 := (HB.out.cell (World.block_lt_of_cell? w _ hx302_1)).trans hx302_1
           replace hx302_2 := (HB.out.cell (World.block_lt_of_cell? w _ hx302_2)).trans hx302_2
           replace hx302_3 := (HB.out.cell (World.block_lt_of_cell? w _ hx302_3)).trans hx302_3
           replace hx302_4 := (HB.out.cell (World.block_lt_of_cell? w _ hx302_4)).trans hx302_4
           replace p302 := eq_true p302
           replace q302 := eq_true q302
           go_upto_region 12 with (first | ((with_reducible refine gate_callee (f := 29) rfl ?_); refine goesL_ (some 54) rfl rfl Try.func29 (by kernel_rfl) rfl #[.agg #[.int .i64 ((rd_T26 l0_0 x4_1).f0), .int .i64 ((rd_T26 l0_0 x4_1).f1), .int .i64 ((rd_T26 l0_0 x4_1).f2), .int .i64 ((rd_T26 l0_0 x4_1).f3), .string ((rd_T26 l0_0 x4_1).f4)]] rfl (by (try simp only [List.map_toArray, List.map_cons, List.map_nil]); first | done | rfl | (simp only [List.length_drop, List.length_take]; rfl)) ?_; (with_reducible refine (thresherref15_EntBytes.calls kj12 ((rd_T26 l0_0 x4_1).f0) ((rd_T26 l0_0 x4_1).f1) ((rd_T26 l0_0 x4_1).f2) ((rd_T26 l0_0 x4_1).f3) ((rd_T26 l0_0 x4_1).f4) t303 _ A28.out).mono ?_); rintro e w32 ⟨rfl, hb⟩; refine ⟨_, rfl, ?_⟩; have n0_ := Aside0.mk (Kd.R_below (by (with_reducible repeat (first | apply Kd.R_alloc | apply Kd.R_drewN | apply Kd.R_drew)); exact HO_3.out) hb); have n1_ := Aside0.mk (blk_below (g := gb292) (o := .cells #[.slice (some ad297) l0_0.length c0_0, .string a0_1] 24 (0, 0)) (by (with_reducible repeat (first | refine blk_drewN ?_ _ | refine blk_drew ?_ | refine blk_alloc ?_ _)); exact BK292.out) hb); have n2_ := Aside0.mk (below_step (by repeat (first | (with_reducible first | exact HB.out | apply below_alloc | apply pw_below_drewN | apply below_drew1 | refine below_set ?_ GE292.out) | exact HB.out)) hb); clear HO_3; clear BK292; clear HB; have HO_3 := n0_; have BK292 := n1_; have HB := n2_; clear n0_ n1_ n2_; (try clear hb); (try clear hb2); (try clear hk); (try clear hi)) | ((with_reducible refine gate_callee (f := 30) rfl ?_); refine goesL_ (some 57) rfl rfl Try.func30 (by kernel_rfl) rfl #[.string t303] rfl (by (try simp only [List.map_toArray, List.map_cons, List.map_nil]); first | done | rfl | (simp only [List.length_drop, List.length_take]; rfl)) ?_; (with_reducible refine (ent_Take.calls kj12 t303 t304 t305 t306 t307 t308 t309 _ A29.out).mono ?_); rintro e w33 ⟨rfl, hb⟩; refine ⟨_, rfl, ?_⟩; have n0_ := Aside0.mk (Kd.R_below (by (with_reducible repeat (first | apply Kd.R_alloc | apply Kd.R_drewN | apply Kd.R_drew)); exact HO_3.out) hb); have n1_ := Aside0.mk (blk_below (g := gb292) (o := .cells #[.slice (some ad297) l0_0.length c0_0, .string a0_1] 24 (0, 0)) (by (with_reducible repeat (first | refine blk_drewN ?_ _ | refine blk_drew ?_ | refine blk_alloc ?_ _)); exact BK292.out) hb); have n2_ := Aside0.mk (below_step (by repeat (first | (with_reducible first | exact HB.out | apply below_alloc | apply pw_below_drewN | apply below_drew1 | refine below_set ?_ GE292.out) | exact HB.out)) hb); clear HO_3; clear BK292; clear HB; have HO_3 := n0_; have BK292 := n1_; have HB := n2_; clear n0_ n1_ n2_; (try clear hb); (try clear hb2); (try clear hk); (try clear hi)) | ((with_reducible refine gate_dst (N := 9) rfl ?_); refine box_event ?hg (N := 9) ?hd (cs := #[.int .i64 0, .int .i64 0, .int .i64 0, .int .i64 0, .string (⟨#[]⟩ : ByteArray)]) (t := 26) ?hr ?_; (case hd => rfl); (case hg => rfl); (case hr => first | (go_simp; done) | (go_simp; rfl)); intro gb310 hg w34 hbox hb; have n0_ := Aside0.mk (Kd.R_below (by (with_reducible repeat (first | apply Kd.R_alloc | apply Kd.R_drewN | apply Kd.R_drew)); exact HO_3.out) hb); have n1_ := Aside0.mk (blk_below (g := gb292) (o := .cells #[.slice (some ad297) l0_0.length c0_0, .string a0_1] 24 (0, 0)) (by (with_reducible repeat (first | refine blk_drewN ?_ _ | refine blk_drew ?_ | refine blk_alloc ?_ _)); exact BK292.out) hb); have n2_ := Aside0.mk (below_step (by repeat (first | (with_reducible first | exact HB.out | apply below_alloc | apply pw_below_drewN | apply below_drew1 | refine below_set ?_ GE292.out) | exact HB.out)) hb); have n3_ := Aside0.mk (hbox); have n4_ := Aside0.mk ((by rw [hg]; exact (below_size (by repeat (first | (with_reducible first | exact HB.out | apply below_alloc | apply pw_below_drewN | apply below_drew1 | refine below_set ?_ GE292.out) | exact HB.out))) : w.heap.size ≤ gb310)); have n5_ := Aside0.mk ((by rw [hg]; exact (below_size (by repeat (first | (with_reducible first | exact HB.out | apply below_alloc | apply pw_below_drewN | apply below_drew1 | refine below_set ?_ GE292.out) | exact HB.out))) : w.heap.size ≤ gb310)); have n6_ := Aside0.mk ((by rw [hg]; exact Nat.ne_of_lt (blk_lt (g := gb292) (o := .cells #[.slice (some ad297) l0_0.length c0_0, .string a0_1] 24 (0, 0)) (by (with_reducible repeat (first | refine blk_drewN ?_ _ | refine blk_drew ?_ | refine blk_alloc ?_ _)); exact BK292.out)) : gb292 ≠ gb310)); have n7_ := Aside0.mk ((by rw [hg]; exact Nat.ne_of_gt (blk_lt (g := gb292) (o := .cells #[.slice (some ad297) l0_0.length c0_0, .string a0_1] 24 (0, 0)) (by (with_reducible repeat (first | refine blk_drewN ?_ _ | refine blk_drew ?_ | refine blk_alloc ?_ _)); exact BK292.out)) : gb310 ≠ gb292)); clear HO_3; clear BK292; clear HB; have HO_3 := n0_; have BK292 := n1_; have HB := n2_; have BK310 := n3_; have GW310 := n4_; have GE310 := n5_; have NB292_310 := n6_; have NB310_292 := n7_; clear n0_ n1_ n2_ n3_ n4_ n5_ n6_ n7_; clear hb hbox hg; have hnb35 := NB310_292.out; have hnc35 := NB292_310.out; obtain ⟨hcz36_0, hcz36_1, hcz36_2, hcz36_3, hcz36_4⟩ := cells5 BK310.out; have hfz36_0 := fun i_ => blk_frozen BK310.out i_))
           (try simp only [Act.put, List.setIfInBounds_toArray, List.set_cons_zero, List.set_cons_succ])
           go_cut [71] (fun v71 wc => ∃ (kq : Nat) (x71_29 : Bool), v71 = .bool x71_29 ∧ Aside0 (thresherlaw16_EntBytes.j2 kq x3_1 x4_1 t298 t299 0 t303 x71_29 l0_0 a0_1 = some r) ∧ Aside0 (kq ≤ kj12) ∧ Aside0 (Kd.R Kd.string 9 wc w.heap.size (fun _ => True) u3 x3_1) ∧ Aside0 (wc.heap[gb292]? = some (.cells #[(.slice (some ad297) l0_0.length c0_0), .string a0_1] 24 (0, 0))) ∧ Aside0 (wc.heap[gb310]? = some (.cells #[.int .i64 t304, .int .i64 t305, .int .i64 t306, .int .i64 t307, .string t308] 26 (0, 0))) ∧ Aside0 (Below w.heap.size w wc))
           case first =>
            have H := HC30.out
            clear HC30
            replace H := Option.bind_eq_some_iff.mp H
            obtain ⟨t311, A370, H⟩ := H
            replace H : (if t311 = 0 then (thresherlaw16_EntBytes.j2 kj12 x3_1 x4_1 t298 t299 0 t303 (!(t304 == ((rd_T26 l0_0 x4_1).f0)) || (!(t305 == ((rd_T26 l0_0 x4_1).f1)) || (!(t306 == ((rd_T26 l0_0 x4_1).f2)) || (!(t307 == ((rd_T26 l0_0 x4_1).f3)) || (!(t308.toList == (((rd_T26 l0_0 x4_1).f4).toList))))))) l0_0 a0_1) else (thresherlaw16_EntBytes.j2 kj12 x3_1 x4_1 t298 t299 0 t303 true l0_0 a0_1)) = some r := H
            have A37 := Aside0.mk A370
            clear A370
            by_cases c38 : t311 = 0
            ·
             rw [if_pos c38] at H
             have c38b0 : (t311 == 0) = true := beq_iff_eq.mpr c38
             have c38b1 : (t311 != 0) = false := bne_eq_false_iff_eq.mpr c38
             clear c38
             (first | rw [c38b0] | (simp only [i64_w, i32_w]; rw [c38b0]) | skip)
             have H' := Aside0.mk H
             clear H
             try go_wp2
             have n0_ : Aside0 (Kd.R Kd.string 9 (((((w34.setCell ⟨gb310, 0, none⟩ (.int .i64 t304)).setCell ⟨gb310, 1, none⟩ (.int .i64 t305)).setCell ⟨gb310, 2, none⟩ (.int .i64 t306)).setCell ⟨gb310, 3, none⟩ (.int .i64 t307)).setCell ⟨gb310, 4, none⟩ (.string t308)) w.heap.size (fun _ => True) u3 x3_1) := ⟨by (with_reducible repeat (first | apply Kd.R_alloc | apply Kd.R_drewN | apply Kd.R_drew)); exact Kd.R_mono (Kd.R_far (p := ⟨gb310, 4, none⟩) (Kd.R_far (p := ⟨gb310, 3, none⟩) (Kd.R_far (p := ⟨gb310, 2, none⟩) (Kd.R_far (p := ⟨gb310, 1, none⟩) (Kd.R_far (p := ⟨gb310, 0, none⟩) (Kd.R_types HO_3.out BK310.out (by decide)) (fun _ hk => hk.2) (.int .i64 t304)) (fun _ hk => hk.2) (.int .i64 t305)) (fun _ hk => hk.2) (.int .i64 t306)) (fun _ hk => hk.2) (.int .i64 t307)) (fun _ hk => hk.2) (.string t308)) (fun _ hk => trivial)⟩
             have n1_ : Aside0 ((((((w34.setCell ⟨gb310, 0, none⟩ (.int .i64 t304)).setCell ⟨gb310, 1, none⟩ (.int .i64 t305)).setCell ⟨gb310, 2, none⟩ (.int .i64 t306)).setCell ⟨gb310, 3, none⟩ (.int .i64 t307)).setCell ⟨gb310, 4, none⟩ (.string t308)).heap[gb292]? = some (.cells #[.slice (some ad297) l0_0.length c0_0, .string a0_1] 24 (0, 0))) := ⟨by (with_reducible repeat (first | refine blk_drewN ?_ _ | refine blk_drew ?_ | refine blk_alloc ?_ _ | refine blk_far ?_ NB292_310.out _)); exact BK292.out⟩
             have n2_ : Aside0 ((((((w34.setCell ⟨gb310, 0, none⟩ (.int .i64 t304)).setCell ⟨gb310, 1, none⟩ (.int .i64 t305)).setCell ⟨gb310, 2, none⟩ (.int .i64 t306)).setCell ⟨gb310, 3, none⟩ (.int .i64 t307)).setCell ⟨gb310, 4, none⟩ (.string t308)).heap[gb310]? = some (.cells #[.int .i64 t304, .int .i64 t305, .int .i64 t306, .int .i64 t307, .string t308] 26 (0, 0))) := ⟨by (with_reducible repeat (first | refine blk_drewN ?_ _ | refine blk_drew ?_ | refine blk_alloc ?_ _)); refine blk_put (cs := #[.int .i64 t304, .int .i64 t305, .int .i64 t306, .int .i64 t307, .string (⟨#[]⟩ : ByteArray)]) ?_ 4 _ rfl; (with_reducible repeat (first | refine blk_drewN ?_ _ | refine blk_drew ?_ | refine blk_alloc ?_ _)); refine blk_put (cs := #[.int .i64 t304, .int .i64 t305, .int .i64 t306, .int .i64 0, .string (⟨#[]⟩ : ByteArray)]) ?_ 3 _ rfl; (with_reducible repeat (first | refine blk_drewN ?_ _ | refine blk_drew ?_ | refine blk_alloc ?_ _)); refine blk_put (cs := #[.int .i64 t304, .int .i64 t305, .int .i64 0, .int .i64 0, .string (⟨#[]⟩ : ByteArray)]) ?_ 2 _ rfl; (with_reducible repeat (first | refine blk_drewN ?_ _ | refine blk_drew ?_ | refine blk_alloc ?_ _)); refine blk_put (cs := #[.int .i64 t304, .int .i64 0, .int .i64 0, .int .i64 0, .string (⟨#[]⟩ : ByteArray)]) ?_ 1 _ rfl; (with_reducible repeat (first | refine blk_drewN ?_ _ | refine blk_drew ?_ | refine blk_alloc ?_ _)); refine blk_put (cs := #[.int .i64 0, .int .i64 0, .int .i64 0, .int .i64 0, .string (⟨#[]⟩ : ByteArray)]) ?_ 0 _ rfl; (with_reducible repeat (first | refine blk_drewN ?_ _ | refine blk_drew ?_ | refine blk_alloc ?_ _)); exact BK310.out⟩
             have n3_ : Aside0 (Below w.heap.size w (((((w34.setCell ⟨gb310, 0, none⟩ (.int .i64 t304)).setCell ⟨gb310, 1, none⟩ (.int .i64 t305)).setCell ⟨gb310, 2, none⟩ (.int .i64 t306)).setCell ⟨gb310, 3, none⟩ (.int .i64 t307)).setCell ⟨gb310, 4, none⟩ (.string t308))) := ⟨by repeat (first | (with_reducible first | exact HB.out | apply below_alloc | apply pw_below_drewN | apply below_drew1 | refine below_set ?_ GE292.out | refine below_set ?_ GE310.out) | exact HB.out)⟩
             (try clear HO_3)
             (try clear BK292)
             (try clear BK310)
             (try clear HB)
             generalize (((((w34.setCell ⟨gb310, 0, none⟩ (.int .i64 t304)).setCell ⟨gb310, 1, none⟩ (.int .i64 t305)).setCell ⟨gb310, 2, none⟩ (.int .i64 t306)).setCell ⟨gb310, 3, none⟩ (.int .i64 t307)).setCell ⟨gb310, 4, none⟩ (.string t308)) = w39 at n0_ n1_ n2_ n3_ ⊢
             have HO_3 := n0_
             have BK292 := n1_
             have BK310 := n2_
             have HB := n3_
             clear n0_ n1_ n2_ n3_
             have n0_ := Aside0.mk (Kd.R_drew HO_3.out)
             have n1_ := Aside0.mk (blk_drew BK292.out)
             have n2_ := Aside0.mk (blk_drew BK310.out)
             have n3_ := Aside0.mk (below_drew1 HB.out)
             clear HO_3
             clear BK292
             clear BK310
             clear HB
             have HO_3 := n0_
             have BK292 := n1_
             have BK310 := n2_
             have HB := n3_
             clear n0_ n1_ n2_ n3_
             have p312 : 0 ≤ (x4_1 : Int) := of_decide_eq_true (by first | (with_reducible assumption) | assumption)
             have q312 : x4_1 < (l0_0.length : Int) := of_decide_eq_true (by first | (with_reducible assumption) | assumption)
             obtain ⟨ad312, e312, hx312_0, hx312_1, hx312_2, hx312_3, hx312_4⟩ := at_T26 HR0_0.out x4_1 p312 q312
             have hw312_4 := hx312_4
             have hw312_3 := hx312_3
             have hw312_2 := hx312_2
             have hw312_1 := hx312_1
             have hw312_0 := hx312_0
             obtain rfl : ad297 = ad312 := (by injection e312)
             replace hx312_0 := (HB.out.cell (World.block_lt_of_cell? w _ hx312_0)).trans hx312_0
             replace hx312_1 := (HB.out.cell (World.block_lt_of_cell? w _ hx312_1)).trans hx312_1
             replace hx312_2 := (HB.out.cell (World.block_lt_of_cell? w _ hx312_2)).trans hx312_2
             replace hx312_3 := (HB.out.cell (World.block_lt_of_cell? w _ hx312_3)).trans hx312_3
             replace hx312_4 := (HB.out.cell (World.block_lt_of_cell? w _ hx312_4)).trans hx312_4
             replace p312 := eq_true p312
             replace q312 := eq_true q312
             refine start_ (n := 12) (S := fun w' => w'.cell? ⟨gb310, 0, none⟩ = some (.int .i64 t304) ∧ w'.cell? ⟨gb310, 1, none⟩ = some (.int .i64 t305) ∧ w'.cell? ⟨gb310, 2, none⟩ = some (.int .i64 t306) ∧ w'.cell? ⟨gb310, 3, none⟩ = some (.int .i64 t307) ∧ w'.cell? ⟨gb310, 4, none⟩ = some (.string t308) ∧ w'.cell? ⟨gb292, 0, none⟩ = some (.slice (some ad297) l0_0.length c0_0) ∧ w'.cell? ⟨gb292, 1, none⟩ = some (.string a0_1) ∧ w'.cell? (ad297.add ((x4_1).toNat * 5)) = some (.int .i64 ((rd_T26 l0_0 x4_1).f0)) ∧ w'.cell? ⟨(ad297.add ((x4_1).toNat * 5)).block, (ad297.add ((x4_1).toNat * 5)).off + 1, none⟩ = some (.int .i64 ((rd_T26 l0_0 x4_1).f1)) ∧ w'.cell? ⟨(ad297.add ((x4_1).toNat * 5)).block, (ad297.add ((x4_1).toNat * 5)).off + 2, none⟩ = some (.int .i64 ((rd_T26 l0_0 x4_1).f2)) ∧ w'.cell? ⟨(ad297.add ((x4_1).toNat * 5)).block, (ad297.add ((x4_1).toNat * 5)).off + 3, none⟩ = some (.int .i64 ((rd_T26 l0_0 x4_1).f3)) ∧ w'.cell? ⟨(ad297.add ((x4_1).toNat * 5)).block, (ad297.add ((x4_1).toNat * 5)).off + 4, none⟩ = some (.string ((rd_T26 l0_0 x4_1).f4))) (ds := []) #[false, false, false, false, false, false, false, false, false, false, false, false] (by kernel_rfl) rfl rfl ⟨(blk_cell BK310.out 0).trans rfl, (blk_cell BK310.out 1).trans rfl, (blk_cell BK310.out 2).trans rfl, (blk_cell BK310.out 3).trans rfl, (blk_cell BK310.out 4).trans rfl, (blk_cell BK292.out 0).trans rfl, (blk_cell BK292.out 1).trans rfl, ((HB.out.cell (World.block_lt_of_cell? w _ hw312_0)).trans hw312_0), ((HB.out.cell (World.block_lt_of_cell? w _ hw312_1)).trans hw312_1), ((HB.out.cell (World.block_lt_of_cell? w _ hw312_2)).trans hw312_2), ((HB.out.cell (World.block_lt_of_cell? w _ hw312_3)).trans hw312_3), ((HB.out.cell (World.block_lt_of_cell? w _ hw312_4)).trans hw312_4)⟩ (fun hHeld => ?_); refine with_tabW thresherlaw16_EntBytes.tab12 thresherlaw16_EntBytes.bits12 (fun HT_ HW_ => ?_)
             generalize w39.drew = w40 at HO_3 BK292 BK310 HB hx312_0 hx312_1 hx312_2 hx312_3 hx312_4 hHeld ⊢
             refine pure_ (i := 0) (N := some 60) (v := ?_) (a' := ?_) #[true, false, false, false, false, false, false, false, false, false, false, false] rfl rfl (any_of HT_.out (by kernel_rfl)) (fun _ _ _ h => h) (Or.inl ⟨by rfl, ?_⟩) ?_ ?_
             rotate_left
             ·
              intro w'
              go_simp
              with_reducible rfl
             rotate_left
             ·
              simp only [Act.put, List.setIfInBounds_toArray, List.set_cons_zero, List.set_cons_succ, i64_w, i32_w]
              rfl
             refine one_ (i := 1) (N := some 61) #[true, true, false, false, false, false, false, false, false, false, false, false] rfl rfl (one_of HT_.out (by kernel_rfl)) (by decide) (fun K hK => ?_)
             refine goes_ Try.func12 (by kernel_rfl) rfl #[.int .i64 t309] (by rfl) rfl rfl (by (try simp only [List.map_toArray, List.map_cons, List.map_nil]); first | done | rfl | (simp only [List.length_drop, List.length_take]; rfl)) ?_
             with_reducible refine (thresherlaw16_num.calls t309 t311 _ A37.out).mono ?_
             rintro e w' ⟨rfl, ⟨nd, rfl⟩⟩
             refine ⟨_, rfl, ?_⟩
             refine hK.out _ _ ⟨(blk_cell BK310.out 0).trans rfl, (blk_cell BK310.out 1).trans rfl, (blk_cell BK310.out 2).trans rfl, (blk_cell BK310.out 3).trans rfl, (blk_cell BK310.out 4).trans rfl, (blk_cell BK292.out 0).trans rfl, (blk_cell BK292.out 1).trans rfl, ((HB.out.cell (World.block_lt_of_cell? w _ hw312_0)).trans hw312_0), ((HB.out.cell (World.block_lt_of_cell? w _ hw312_1)).trans hw312_1), ((HB.out.cell (World.block_lt_of_cell? w _ hw312_2)).trans hw312_2), ((HB.out.cell (World.block_lt_of_cell? w _ hw312_3)).trans hw312_3), ((HB.out.cell (World.block_lt_of_cell? w _ hw312_4)).trans hw312_4)⟩ (fun hHeld => ?_)
             clear hK K
             refine norm_ (a' := ?_) ?_ ?_
             rotate_left
             ·
              show Act.put _ (some 61) _ = _
              simp only [Act.put, List.setIfInBounds_toArray, List.set_cons_zero, List.set_cons_succ, i64_w, i32_w]
              rfl
             refine pure_ (i := 2) (N := some 62) (v := ?_) (a' := ?_) #[true, true, true, false, false, false, false, false, false, false, false, false] rfl rfl (any_of HT_.out (by kernel_rfl)) (fun _ _ _ h => h) (Or.inl ⟨by rfl, ?_⟩) ?_ ?_
             rotate_left
             ·
              intro w'
              go_simp
              with_reducible rfl
             rotate_left
             ·
              simp only [Act.put, List.setIfInBounds_toArray, List.set_cons_zero, List.set_cons_succ, i64_w, i32_w]
              rfl
             refine pure_ (i := 3) (N := some 63) (v := ?_) (a' := ?_) #[true, true, true, true, false, false, false, false, false, false, false, false] rfl rfl (any_of HT_.out (by kernel_rfl)) (fun _ _ _ h => h) (Or.inl ⟨by rfl, ?_⟩) ?_ ?_
             rotate_left
             ·
              intro w'
              go_simp
              with_reducible rfl
             rotate_left
             ·
              simp only [Act.put, List.setIfInBounds_toArray, List.set_cons_zero, List.set_cons_succ, i64_w, i32_w]
              rfl
             refine pure_ (i := 5) (N := some 65) (v := ?_) (a' := ?_) #[true, true, true, true, false, true, false, false, false, false, false, false] rfl rfl (any_of HT_.out (by kernel_rfl)) (fun _ _ _ h => h) (Or.inl ⟨by rfl, ?_⟩) ?_ ?_
             rotate_left
             ·
              intro w'
              go_simp
              with_reducible rfl
             rotate_left
             ·
              simp only [Act.put, List.setIfInBounds_toArray, List.set_cons_zero, List.set_cons_succ, i64_w, i32_w]
              rfl
             refine pure_ (i := 7) (N := some 67) (v := ?_) (a' := ?_) #[true, true, true, true, false, true, false, true, false, false, false, false] rfl rfl (any_of HT_.out (by kernel_rfl)) (fun _ _ _ h => h) (Or.inl ⟨by rfl, ?_⟩) ?_ ?_
             rotate_left
             ·
              intro w'
              go_simp
              with_reducible rfl
             rotate_left
             ·
              simp only [Act.put, List.setIfInBounds_toArray, List.set_cons_zero, List.set_cons_succ, i64_w, i32_w]
              rfl
             refine take_ (i := 4) (N := some 64) (v := ?_) (a' := ?_) #[true, true, true, true, true, true, false, true, false, false, false, false] rfl rfl (take_ofW HT_.out HW_.out (by kernel_rfl)) (fun _ _ _ h => h) (Or.inl ⟨by rfl, ?_⟩) hHeld ?_ ?_
             rotate_left
             ·
              rintro w' ⟨s0, s1, s2, s3, s4, s5, s6, s7, s8, s9, s10, s11⟩
              go_simp
              with_reducible rfl
             rotate_left
             ·
              simp only [Act.put, List.setIfInBounds_toArray, List.set_cons_zero, List.set_cons_succ, i64_w, i32_w]
              rfl
             refine take_ (i := 6) (N := some 66) (v := ?_) (a' := ?_) #[true, true, true, true, true, true, true, true, false, false, false, false] rfl rfl (take_ofW HT_.out HW_.out (by kernel_rfl)) (fun _ _ _ h => h) (Or.inl ⟨by rfl, ?_⟩) hHeld ?_ ?_
             rotate_left
             ·
              rintro w' ⟨s0, s1, s2, s3, s4, s5, s6, s7, s8, s9, s10, s11⟩
              go_simp
              with_reducible rfl
             rotate_left
             ·
              simp only [Act.put, List.setIfInBounds_toArray, List.set_cons_zero, List.set_cons_succ, i64_w, i32_w]
              rfl
             refine pure_ (i := 8) (N := some 68) (v := ?_) (a' := ?_) #[true, true, true, true, true, true, true, true, true, false, false, false] rfl rfl (any_of HT_.out (by kernel_rfl)) (fun _ _ _ h => h) (Or.inl ⟨by rfl, ?_⟩) ?_ ?_
             rotate_left
             ·
              intro w'
              go_simp
              with_reducible rfl
             rotate_left
             ·
              simp only [Act.put, List.setIfInBounds_toArray, List.set_cons_zero, List.set_cons_succ, i64_w, i32_w]
              rfl
             refine take_ (i := 9) (N := some 69) (v := ?_) (a' := ?_) #[true, true, true, true, true, true, true, true, true, true, false, false] rfl rfl (take_ofW HT_.out HW_.out (by kernel_rfl)) (fun _ _ _ h => h) (Or.inl ⟨by rfl, ?_⟩) hHeld ?_ ?_
             rotate_left
             ·
              rintro w' ⟨s0, s1, s2, s3, s4, s5, s6, s7, s8, s9, s10, s11⟩
              go_simp
              with_reducible rfl
             rotate_left
             ·
              simp only [Act.put, List.setIfInBounds_toArray, List.set_cons_zero, List.set_cons_succ, i64_w, i32_w]
              rfl
             refine pure_ (i := 10) (N := some 70) (v := ?_) (a' := ?_) #[true, true, true, true, true, true, true, true, true, true, true, false] rfl rfl (any_of HT_.out (by kernel_rfl)) (fun _ _ _ h => h) (Or.inl ⟨by rfl, ?_⟩) ?_ ?_
             rotate_left
             ·
              intro w'
              go_simp
              with_reducible rfl
             rotate_left
             ·
              simp only [Act.put, List.setIfInBounds_toArray, List.set_cons_zero, List.set_cons_succ, i64_w, i32_w]
              rfl
             refine pure_ (i := 11) (N := some 71) (v := ?_) (a' := ?_) #[true, true, true, true, true, true, true, true, true, true, true, true] rfl rfl (any_of HT_.out (by kernel_rfl)) (fun _ _ _ h => h) (Or.inl ⟨by rfl, ?_⟩) ?_ ?_
             rotate_left
             ·
              intro w'
              go_simp
              with_reducible rfl
             rotate_left
             ·
              simp only [Act.put, List.setIfInBounds_toArray, List.set_cons_zero, List.set_cons_succ, i64_w, i32_w]
              rfl
             refine done_ (done_of HT_.out (by kernel_rfl)) ?_
             try go_wp2
             go_meet
             case rel => exact ⟨_, ((!(t304 == ((rd_T26 l0_0 x4_1).f0)) || (!(t305 == ((rd_T26 l0_0 x4_1).f1)) || (!(t306 == ((rd_T26 l0_0 x4_1).f2)) || (!(t307 == ((rd_T26 l0_0 x4_1).f3)) || (!(t308.toList == (((rd_T26 l0_0 x4_1).f4).toList)))))))), (by first | rfl | (simp; done) | (simp [*]; done)), H', ⟨by have := HK1.out; have := HJ12.out; first | omega | exact Nat.le_refl _⟩, ⟨by (with_reducible repeat (first | apply Kd.R_alloc | apply Kd.R_drewN | apply Kd.R_drew)); exact HO_3.out⟩, ⟨by (with_reducible repeat (first | refine blk_drewN ?_ _ | refine blk_drew ?_ | refine blk_alloc ?_ _)); exact BK292.out⟩, ⟨by (with_reducible repeat (first | refine blk_drewN ?_ _ | refine blk_drew ?_ | refine blk_alloc ?_ _)); exact BK310.out⟩, ⟨by repeat (first | (with_reducible first | exact HB.out | apply below_alloc | apply pw_below_drewN | apply below_drew1 | refine below_set ?_ GE292.out | refine below_set ?_ GE310.out) | exact HB.out)⟩⟩
            ·
             rw [if_neg c38] at H
             have c38b0 : (t311 == 0) = false := beq_eq_false_iff_ne.mpr c38
             have c38b1 : (t311 != 0) = true := bne_iff_ne.mpr c38
             (first | rw [c38b0] | (simp only [i64_w, i32_w]; rw [c38b0]) | skip)
             have H' := Aside0.mk H
             clear H
             try go_wp2
             have n0_ : Aside0 (Kd.R Kd.string 9 (((((w34.setCell ⟨gb310, 0, none⟩ (.int .i64 t304)).setCell ⟨gb310, 1, none⟩ (.int .i64 t305)).setCell ⟨gb310, 2, none⟩ (.int .i64 t306)).setCell ⟨gb310, 3, none⟩ (.int .i64 t307)).setCell ⟨gb310, 4, none⟩ (.string t308)) w.heap.size (fun _ => True) u3 x3_1) := ⟨by (with_reducible repeat (first | apply Kd.R_alloc | apply Kd.R_drewN | apply Kd.R_drew)); exact Kd.R_mono (Kd.R_far (p := ⟨gb310, 4, none⟩) (Kd.R_far (p := ⟨gb310, 3, none⟩) (Kd.R_far (p := ⟨gb310, 2, none⟩) (Kd.R_far (p := ⟨gb310, 1, none⟩) (Kd.R_far (p := ⟨gb310, 0, none⟩) (Kd.R_types HO_3.out BK310.out (by decide)) (fun _ hk => hk.2) (.int .i64 t304)) (fun _ hk => hk.2) (.int .i64 t305)) (fun _ hk => hk.2) (.int .i64 t306)) (fun _ hk => hk.2) (.int .i64 t307)) (fun _ hk => hk.2) (.string t308)) (fun _ hk => trivial)⟩
             have n1_ : Aside0 ((((((w34.setCell ⟨gb310, 0, none⟩ (.int .i64 t304)).setCell ⟨gb310, 1, none⟩ (.int .i64 t305)).setCell ⟨gb310, 2, none⟩ (.int .i64 t306)).setCell ⟨gb310, 3, none⟩ (.int .i64 t307)).setCell ⟨gb310, 4, none⟩ (.string t308)).heap[gb292]? = some (.cells #[.slice (some ad297) l0_0.length c0_0, .string a0_1] 24 (0, 0))) := ⟨by (with_reducible repeat (first | refine blk_drewN ?_ _ | refine blk_drew ?_ | refine blk_alloc ?_ _ | refine blk_far ?_ NB292_310.out _)); exact BK292.out⟩
             have n2_ : Aside0 ((((((w34.setCell ⟨gb310, 0, none⟩ (.int .i64 t304)).setCell ⟨gb310, 1, none⟩ (.int .i64 t305)).setCell ⟨gb310, 2, none⟩ (.int .i64 t306)).setCell ⟨gb310, 3, none⟩ (.int .i64 t307)).setCell ⟨gb310, 4, none⟩ (.string t308)).heap[gb310]? = some (.cells #[.int .i64 t304, .int .i64 t305, .int .i64 t306, .int .i64 t307, .string t308] 26 (0, 0))) := ⟨by (with_reducible repeat (first | refine blk_drewN ?_ _ | refine blk_drew ?_ | refine blk_alloc ?_ _)); refine blk_put (cs := #[.int .i64 t304, .int .i64 t305, .int .i64 t306, .int .i64 t307, .string (⟨#[]⟩ : ByteArray)]) ?_ 4 _ rfl; (with_reducible repeat (first | refine blk_drewN ?_ _ | refine blk_drew ?_ | refine blk_alloc ?_ _)); refine blk_put (cs := #[.int .i64 t304, .int .i64 t305, .int .i64 t306, .int .i64 0, .string (⟨#[]⟩ : ByteArray)]) ?_ 3 _ rfl; (with_reducible repeat (first | refine blk_drewN ?_ _ | refine blk_drew ?_ | refine blk_alloc ?_ _)); refine blk_put (cs := #[.int .i64 t304, .int .i64 t305, .int .i64 0, .int .i64 0, .string (⟨#[]⟩ : ByteArray)]) ?_ 2 _ rfl; (with_reducible repeat (first | refine blk_drewN ?_ _ | refine blk_drew ?_ | refine blk_alloc ?_ _)); refine blk_put (cs := #[.int .i64 t304, .int .i64 0, .int .i64 0, .int .i64 0, .string (⟨#[]⟩ : ByteArray)]) ?_ 1 _ rfl; (with_reducible repeat (first | refine blk_drewN ?_ _ | refine blk_drew ?_ | refine blk_alloc ?_ _)); refine blk_put (cs := #[.int .i64 0, .int .i64 0, .int .i64 0, .int .i64 0, .string (⟨#[]⟩ : ByteArray)]) ?_ 0 _ rfl; (with_reducible repeat (first | refine blk_drewN ?_ _ | refine blk_drew ?_ | refine blk_alloc ?_ _)); exact BK310.out⟩
             have n3_ : Aside0 (Below w.heap.size w (((((w34.setCell ⟨gb310, 0, none⟩ (.int .i64 t304)).setCell ⟨gb310, 1, none⟩ (.int .i64 t305)).setCell ⟨gb310, 2, none⟩ (.int .i64 t306)).setCell ⟨gb310, 3, none⟩ (.int .i64 t307)).setCell ⟨gb310, 4, none⟩ (.string t308))) := ⟨by repeat (first | (with_reducible first | exact HB.out | apply below_alloc | apply pw_below_drewN | apply below_drew1 | refine below_set ?_ GE292.out | refine below_set ?_ GE310.out) | exact HB.out)⟩
             (try clear HO_3)
             (try clear BK292)
             (try clear BK310)
             (try clear HB)
             generalize (((((w34.setCell ⟨gb310, 0, none⟩ (.int .i64 t304)).setCell ⟨gb310, 1, none⟩ (.int .i64 t305)).setCell ⟨gb310, 2, none⟩ (.int .i64 t306)).setCell ⟨gb310, 3, none⟩ (.int .i64 t307)).setCell ⟨gb310, 4, none⟩ (.string t308)) = w41 at n0_ n1_ n2_ n3_ ⊢
             have HO_3 := n0_
             have BK292 := n1_
             have BK310 := n2_
             have HB := n3_
             clear n0_ n1_ n2_ n3_
             have n0_ := Aside0.mk (Kd.R_drew HO_3.out)
             have n1_ := Aside0.mk (blk_drew BK292.out)
             have n2_ := Aside0.mk (blk_drew BK310.out)
             have n3_ := Aside0.mk (below_drew1 HB.out)
             clear HO_3
             clear BK292
             clear BK310
             clear HB
             have HO_3 := n0_
             have BK292 := n1_
             have BK310 := n2_
             have HB := n3_
             clear n0_ n1_ n2_ n3_
             refine start_ (n := 12) (S := fun w' => True) (ds := []) #[false, false, false, false, false, false, false, false, false, false, false, false] (by kernel_rfl) rfl rfl trivial (fun hHeld => ?_); refine with_tabW thresherlaw16_EntBytes.tab12 thresherlaw16_EntBytes.bits12 (fun HT_ HW_ => ?_)
             generalize w41.drew = w42 at HO_3 BK292 BK310 HB hHeld ⊢
             refine pure_ (i := 0) (N := some 60) (v := ?_) (a' := ?_) #[true, false, false, false, false, false, false, false, false, false, false, false] rfl rfl (any_of HT_.out (by kernel_rfl)) (fun _ _ _ h => h) (Or.inl ⟨by rfl, ?_⟩) ?_ ?_
             rotate_left
             ·
              intro w'
              go_simp
              with_reducible rfl
             rotate_left
             ·
              simp only [Act.put, List.setIfInBounds_toArray, List.set_cons_zero, List.set_cons_succ, i64_w, i32_w]
              rfl
             refine one_ (i := 1) (N := some 61) #[true, true, false, false, false, false, false, false, false, false, false, false] rfl rfl (one_of HT_.out (by kernel_rfl)) (by decide) (fun K hK => ?_)
             refine goes_ Try.func12 (by kernel_rfl) rfl #[.int .i64 t309] (by rfl) rfl rfl (by (try simp only [List.map_toArray, List.map_cons, List.map_nil]); first | done | rfl | (simp only [List.length_drop, List.length_take]; rfl)) ?_
             with_reducible refine (thresherlaw16_num.calls t309 t311 _ A37.out).mono ?_
             rintro e w' ⟨rfl, ⟨nd, rfl⟩⟩
             refine ⟨_, rfl, ?_⟩
             refine hK.out _ _ trivial (fun hHeld => ?_)
             clear hK K
             refine norm_ (a' := ?_) ?_ ?_
             rotate_left
             ·
              show Act.put _ (some 61) _ = _
              simp only [Act.put, List.setIfInBounds_toArray, List.set_cons_zero, List.set_cons_succ, i64_w, i32_w]
              rfl
             refine pure_ (i := 2) (N := some 62) (v := ?_) (a' := ?_) #[true, true, true, false, false, false, false, false, false, false, false, false] rfl rfl (any_of HT_.out (by kernel_rfl)) (fun _ _ _ h => h) (Or.inl ⟨by rfl, ?_⟩) ?_ ?_
             rotate_left
             ·
              intro w'
              go_simp
              with_reducible rfl
             rotate_left
             ·
              simp only [Act.put, List.setIfInBounds_toArray, List.set_cons_zero, List.set_cons_succ, i64_w, i32_w]
              rfl
             refine pure_ (i := 3) (N := some 63) (v := ?_) (a' := ?_) #[true, true, true, true, false, false, false, false, false, false, false, false] rfl rfl (any_of HT_.out (by kernel_rfl)) (fun _ _ _ h => h) (Or.inl ⟨by rfl, ?_⟩) ?_ ?_
             rotate_left
             ·
              intro w'
              go_simp
              with_reducible rfl
             rotate_left
             ·
              simp only [Act.put, List.setIfInBounds_toArray, List.set_cons_zero, List.set_cons_succ, i64_w, i32_w]
              rfl
             refine pure_ (i := 4) (N := some 64) (v := undef) (a' := ?_) #[true, true, true, true, true, false, false, false, false, false, false, false] rfl rfl (any_of HT_.out (by kernel_rfl)) (fun _ _ _ h => h) (Or.inr ⟨by rfl, rfl⟩) ?_ ?_
             rotate_left
             ·
              simp only [Act.put, List.setIfInBounds_toArray, List.set_cons_zero, List.set_cons_succ, i64_w, i32_w]
              rfl
             refine pure_ (i := 5) (N := some 65) (v := undef) (a' := ?_) #[true, true, true, true, true, true, false, false, false, false, false, false] rfl rfl (any_of HT_.out (by kernel_rfl)) (fun _ _ _ h => h) (Or.inr ⟨by rfl, rfl⟩) ?_ ?_
             rotate_left
             ·
              simp only [Act.put, List.setIfInBounds_toArray, List.set_cons_zero, List.set_cons_succ, i64_w, i32_w]
              rfl
             refine pure_ (i := 6) (N := some 66) (v := undef) (a' := ?_) #[true, true, true, true, true, true, true, false, false, false, false, false] rfl rfl (any_of HT_.out (by kernel_rfl)) (fun _ _ _ h => h) (Or.inr ⟨by rfl, rfl⟩) ?_ ?_
             rotate_left
             ·
              simp only [Act.put, List.setIfInBounds_toArray, List.set_cons_zero, List.set_cons_succ, i64_w, i32_w]
              rfl
             refine pure_ (i := 7) (N := some 67) (v := undef) (a' := ?_) #[true, true, true, true, true, true, true, true, false, false, false, false] rfl rfl (any_of HT_.out (by kernel_rfl)) (fun _ _ _ h => h) (Or.inr ⟨by rfl, rfl⟩) ?_ ?_
             rotate_left
             ·
              simp only [Act.put, List.setIfInBounds_toArray, List.set_cons_zero, List.set_cons_succ, i64_w, i32_w]
              rfl
             refine pure_ (i := 8) (N := some 68) (v := undef) (a' := ?_) #[true, true, true, true, true, true, true, true, true, false, false, false] rfl rfl (any_of HT_.out (by kernel_rfl)) (fun _ _ _ h => h) (Or.inr ⟨by rfl, rfl⟩) ?_ ?_
             rotate_left
             ·
              simp only [Act.put, List.setIfInBounds_toArray, List.set_cons_zero, List.set_cons_succ, i64_w, i32_w]
              rfl
             refine pure_ (i := 9) (N := some 69) (v := undef) (a' := ?_) #[true, true, true, true, true, true, true, true, true, true, false, false] rfl rfl (any_of HT_.out (by kernel_rfl)) (fun _ _ _ h => h) (Or.inr ⟨by rfl, rfl⟩) ?_ ?_
             rotate_left
             ·
              simp only [Act.put, List.setIfInBounds_toArray, List.set_cons_zero, List.set_cons_succ, i64_w, i32_w]
              rfl
             refine pure_ (i := 10) (N := some 70) (v := undef) (a' := ?_) #[true, true, true, true, true, true, true, true, true, true, true, false] rfl rfl (any_of HT_.out (by kernel_rfl)) (fun _ _ _ h => h) (Or.inr ⟨by rfl, rfl⟩) ?_ ?_
             rotate_left
             ·
              simp only [Act.put, List.setIfInBounds_toArray, List.set_cons_zero, List.set_cons_succ, i64_w, i32_w]
              rfl
             refine pure_ (i := 11) (N := some 71) (v := ?_) (a' := ?_) #[true, true, true, true, true, true, true, true, true, true, true, true] rfl rfl (any_of HT_.out (by kernel_rfl)) (fun _ _ _ h => h) (Or.inl ⟨by rfl, ?_⟩) ?_ ?_
             rotate_left
             ·
              intro w'
              go_simp
              with_reducible rfl
             rotate_left
             ·
              simp only [Act.put, List.setIfInBounds_toArray, List.set_cons_zero, List.set_cons_succ, i64_w, i32_w]
              rfl
             refine done_ (done_of HT_.out (by kernel_rfl)) ?_
             try go_wp2
             go_meet
             case rel => exact ⟨_, (true), (by first | rfl | (simp; done) | (simp [*]; done)), H', ⟨by have := HK1.out; have := HJ12.out; first | omega | exact Nat.le_refl _⟩, ⟨by (with_reducible repeat (first | apply Kd.R_alloc | apply Kd.R_drewN | apply Kd.R_drew)); exact HO_3.out⟩, ⟨by (with_reducible repeat (first | refine blk_drewN ?_ _ | refine blk_drew ?_ | refine blk_alloc ?_ _)); exact BK292.out⟩, ⟨by (with_reducible repeat (first | refine blk_drewN ?_ _ | refine blk_drew ?_ | refine blk_alloc ?_ _)); exact BK310.out⟩, ⟨by repeat (first | (with_reducible first | exact HB.out | apply below_alloc | apply pw_below_drewN | apply below_drew1 | refine below_set ?_ GE292.out | refine below_set ?_ GE310.out) | exact HB.out)⟩⟩
           case rest =>
            clear HC30
            (try clear c1); (try clear c2); (try clear p2); (try clear q2); (try clear hx2); (try clear c3); (try clear p3); (try clear q3); (try clear hx3); (try clear c6); (try clear c12); (try clear c14); (try clear c14b0); (try clear c17); (try clear c18); (try clear c18b0); (try clear c19); (try clear c19b0); (try clear c26); (try clear c27); (try clear c28); (try clear c29); (try clear p29); (try clear q29); (try clear hx29); (try clear c30); (try clear p30); (try clear q30); (try clear hx30); (try clear p31); (try clear q31); (try clear hx31); (try clear c35); (try clear c38); (try clear c38b0); (try clear c38b1); (try clear hcz10_0); (try clear hcz10_1); (try clear hcz15_0); (try clear hcz15_1); (try clear hcz16_0); (try clear hcz16_1); (try clear hcz23_0); (try clear hcz23_1); (try clear hcz25_0); (try clear hcz25_1); (try clear hcz31_0); (try clear hcz31_1); (try clear hcz36_0); (try clear hcz36_1); (try clear hcz36_2); (try clear hcz36_3); (try clear hcz36_4); (try clear hcz5_0); (try clear hcz5_1); (try clear hcz8_0); (try clear hcz8_1); (try clear hfz10_0); (try clear hfz15_0); (try clear hfz16_0); (try clear hfz23_0); (try clear hfz25_0); (try clear hfz31_0); (try clear hfz36_0); (try clear hfz5_0); (try clear hfz8_0); (try clear hx297_0); (try clear hx297_1); (try clear hx297_2); (try clear hx297_3); (try clear hx297_4); (try clear hx300_0); (try clear hx300_1); (try clear hx300_2); (try clear hx300_3); (try clear hx300_4); (try clear hx302_0); (try clear hx302_1); (try clear hx302_2); (try clear hx302_3); (try clear hx302_4); (try clear hx312_0); (try clear hx312_1); (try clear hx312_2); (try clear hx312_3); (try clear hx312_4); (try clear p2); (try clear p297); (try clear p300); (try clear p302); (try clear p312); (try clear q297); (try clear q300); (try clear q302); (try clear q312)
            obtain ⟨kq, x71_29, rfl, HA, HJ29, HO_3, BK292, BK310, HB⟩ := hcut
            cases kq with
            | zero => exact absurd HA.out (by simp [thresherlaw16_EntBytes.j2])
            | succ kj29 =>
             have H := HA.out
             clear HA
             simp only [thresherlaw16_EntBytes.j2] at H
             by_cases c43 : x71_29 = true
             ·
              subst c43
              have H1 : (some false) = some r := by rw [if_pos rfl] at H; exact H
              clear H
              have H := H1
              clear H1
              obtain rfl := Option.some.inj H
              go_wp2
              go_ret
              exact ⟨by first | rfl | (simp [errW_none, errW_some] <;> rfl) | (simp [*, errW_none, errW_some] <;> rfl), by repeat (first | (with_reducible first | exact HB.out | apply below_alloc | apply pw_below_drewN | apply below_drew1 | refine below_set ?_ GE292.out | refine below_set ?_ GE310.out) | exact HB.out)⟩
             ·
              replace c43 := Bool.eq_false_iff.mpr c43
              subst c43
              have H1 : (thresherlaw16_EntBytes.l1 kj29 x3_1 x4_1 t298 t299 0 t303 0 l0_0 a0_1) = some r := by rw [if_neg (show ¬ (false = true) by decide)] at H; exact H
              clear H
              have H := H1
              clear H1
              have H' := Aside0.mk H
              clear H
              go_wp2
              go_loopg [3, 11] kj29 (fun kq v3 v11 w' => ∃ (x3_4 : List ByteArray) (x11_4 : Int), v11 = .int .i64 x11_4 ∧ Aside0 (thresherlaw16_EntBytes.l1 kq x3_4 x4_1 t298 t299 0 t303 x11_4 l0_0 a0_1 = some r) ∧ Aside0 (kq ≤ kj29) ∧ Aside0 (Kd.R Kd.string 9 w' w.heap.size (fun _ => True) v3 x3_4) ∧ Aside0 (w'.heap[gb292]? = some (.cells #[(.slice (some ad297) l0_0.length c0_0), .string a0_1] 24 (0, 0))) ∧ Aside0 (w'.heap[gb310]? = some (.cells #[.int .i64 t304, .int .i64 t305, .int .i64 t306, .int .i64 t307, .string t308] 26 (0, 0))) ∧ Aside0 (Below w.heap.size w w'))
              case atStart => exact ⟨(x3_1), (0), (by first | rfl | (simp; done) | (simp [*]; done)), H', ⟨Nat.le_refl _⟩, ⟨by (with_reducible repeat (first | apply Kd.R_alloc | apply Kd.R_drewN | apply Kd.R_drew)); exact HO_3.out⟩, ⟨by (with_reducible repeat (first | refine blk_drewN ?_ _ | refine blk_drew ?_ | refine blk_alloc ?_ _)); exact BK292.out⟩, ⟨by (with_reducible repeat (first | refine blk_drewN ?_ _ | refine blk_drew ?_ | refine blk_alloc ?_ _)); exact BK310.out⟩, ⟨by repeat (first | (with_reducible first | exact HB.out | apply below_alloc | apply pw_below_drewN | apply below_drew1 | refine below_set ?_ GE292.out | refine below_set ?_ GE310.out) | exact HB.out)⟩⟩
              case round =>
               clear H'
               (try clear c1); (try clear c2); (try clear p2); (try clear q2); (try clear hx2); (try clear c3); (try clear p3); (try clear q3); (try clear hx3); (try clear c4); (try clear c6); (try clear c12); (try clear c14); (try clear c14b0); (try clear c17); (try clear c18); (try clear c18b0); (try clear c19); (try clear c19b0); (try clear c26); (try clear c27); (try clear c28); (try clear c29); (try clear p29); (try clear q29); (try clear hx29); (try clear c30); (try clear p30); (try clear q30); (try clear hx30); (try clear p31); (try clear q31); (try clear hx31); (try clear c35); (try clear c38); (try clear c38b0); (try clear c38b1); (try clear c43); (try clear hcz10_0); (try clear hcz10_1); (try clear hcz15_0); (try clear hcz15_1); (try clear hcz16_0); (try clear hcz16_1); (try clear hcz23_0); (try clear hcz23_1); (try clear hcz25_0); (try clear hcz25_1); (try clear hcz31_0); (try clear hcz31_1); (try clear hcz36_0); (try clear hcz36_1); (try clear hcz36_2); (try clear hcz36_3); (try clear hcz36_4); (try clear hcz5_0); (try clear hcz5_1); (try clear hcz8_0); (try clear hcz8_1); (try clear hfz10_0); (try clear hfz15_0); (try clear hfz16_0); (try clear hfz23_0); (try clear hfz25_0); (try clear hfz31_0); (try clear hfz36_0); (try clear hfz5_0); (try clear hfz8_0); (try clear hx297_0); (try clear hx297_1); (try clear hx297_2); (try clear hx297_3); (try clear hx297_4); (try clear hx300_0); (try clear hx300_1); (try clear hx300_2); (try clear hx300_3); (try clear hx300_4); (try clear hx302_0); (try clear hx302_1); (try clear hx302_2); (try clear hx302_3); (try clear hx302_4); (try clear hx312_0); (try clear hx312_1); (try clear hx312_2); (try clear hx312_3); (try clear hx312_4); (try clear p2); (try clear p29); (try clear p297); (try clear p3); (try clear p30); (try clear p300); (try clear p302); (try clear p31); (try clear p312); (try clear q2); (try clear q29); (try clear q297); (try clear q3); (try clear q30); (try clear q300); (try clear q302); (try clear q31); (try clear q312)
               obtain ⟨x3_4, x11_4, rfl, HA, HK4, HO_3, BK292, BK310, HB⟩ := hrel
               cases gk with
               | zero => exact absurd HA.out (by simp [thresherlaw16_EntBytes.l1])
               | succ k4 =>
                have H := HA.out
                clear HA
                simp only [thresherlaw16_EntBytes.l1] at H
                by_cases c44 : x11_4 < (t303.size : Int)
                ·
                 rw [if_pos c44] at H
                 have c44b0 : decide (x11_4 < (t303.size : Int)) = true := decide_eq_true c44
                 clear c44
                 by_cases c45 : x11_4 < 10
                 ·
                  rw [if_pos c45] at H
                  have c45b0 : decide (x11_4 < 10) = true := decide_eq_true c45
                  clear c45
                  by_cases c46 : t303.size ≤ 9223372036854775807
                  ·
                   rw [if_pos c46] at H
                   have c46b0 := eq_true c46
                   have c46b1 : decide (t303.size ≤ 9223372036854775807) = true := decide_eq_true c46
                   try have c46b2 : (9223372036854775807 < t303.size) = False := eq_false (Nat.not_lt.2 c46)
                   clear c46
                   obtain ⟨y313, hy313⟩ : ∃ y_ : List Int, y_ = (bytesOf t303) := ⟨_, rfl⟩
                   replace H : (if 0 ≤ x11_4 then (if x11_4 < (y313.length : Int) then (if x11_4 ≤ (t303.size : Int) then ((some (([strOfNums (y313.set (x11_4 : Int).toNat (Go.bits .xor .u8 (rd y313 x11_4) ((wrap64 (1 + (Int.tmod (wrap64 ((wrap64 (x4_1 * 17)) + x11_4)) 255))) % 256))), t303.extract 0 (x11_4 : Int).toNat] : List ByteArray) : List ByteArray)).bind fun y318 => (if x3_4.length + y318.length < 8796093022208 then (thresherlaw16_EntBytes.l1 k4 (x3_4 ++ y318) x4_1 t298 t299 0 t303 (wrap64 (x11_4 + 1)) l0_0 a0_1) else (none))) else (none)) else (none)) else (none)) = some r := by first | (rw [hy313]; with_reducible exact H) | (have H2_ := (Option.bind_some _ _).symm.trans H; rw [hy313]; with_reducible exact H2_) | (have H2_ := (Option.bind_some _ _).symm.trans H; with_reducible exact H2_) | with_reducible exact H | (rw [hy313]; exact H) | exact H
                   have Ny313 := Aside0.mk hy313
                   clear hy313
                   by_cases c47 : 0 ≤ x11_4
                   ·
                    rw [if_pos c47] at H
                    have c47b0 : decide (0 ≤ x11_4) = true := decide_eq_true c47
                    clear c47
                    by_cases c48 : x11_4 < (y313.length : Int)
                    ·
                     rw [if_pos c48] at H
                     have c48b0 : decide (x11_4 < (y313.length : Int)) = true := decide_eq_true c48
                     clear c48
                     obtain ⟨y317, hy317⟩ : ∃ y_ : List Int, y_ = (y313.set (x11_4 : Int).toNat (Go.bits .xor .u8 (rd y313 x11_4) ((wrap64 (1 + (Int.tmod (wrap64 ((wrap64 (x4_1 * 17)) + x11_4)) 255))) % 256))) := ⟨_, rfl⟩
                     replace H : (if x11_4 ≤ (t303.size : Int) then ((some (([strOfNums y317, t303.extract 0 (x11_4 : Int).toNat] : List ByteArray) : List ByteArray)).bind fun y318 => (if x3_4.length + y318.length < 8796093022208 then (thresherlaw16_EntBytes.l1 k4 (x3_4 ++ y318) x4_1 t298 t299 0 t303 (wrap64 (x11_4 + 1)) l0_0 a0_1) else (none))) else (none)) = some r := by first | (rw [hy317]; with_reducible exact H) | (have H2_ := (Option.bind_some _ _).symm.trans H; rw [hy317]; with_reducible exact H2_) | (have H2_ := (Option.bind_some _ _).symm.trans H; with_reducible exact H2_) | with_reducible exact H | (rw [hy317]; exact H) | exact H
                     have Ny317 := Aside0.mk hy317
                     clear hy317
                     have c50b0 := eq_true (of_decide_eq_true (by first | (with_reducible assumption) | assumption) : 0 ≤ x11_4)
                     by_cases c51 : x11_4 ≤ (t303.size : Int)
                     ·
                      rw [if_pos c51] at H
                      have c51b0 := eq_true c51
                      have c51b1 : decide (x11_4 ≤ (t303.size : Int)) = true := decide_eq_true c51
                      clear c51
                      obtain ⟨y318, hy318⟩ : ∃ y_ : List ByteArray, y_ = (([strOfNums y317, t303.extract 0 (x11_4 : Int).toNat] : List ByteArray)) := ⟨_, rfl⟩
                      replace H : (if x3_4.length + y318.length < 8796093022208 then (thresherlaw16_EntBytes.l1 k4 (x3_4 ++ y318) x4_1 t298 t299 0 t303 (wrap64 (x11_4 + 1)) l0_0 a0_1) else (none)) = some r := by first | (rw [hy318]; with_reducible exact H) | (have H2_ := (Option.bind_some _ _).symm.trans H; rw [hy318]; with_reducible exact H2_) | (have H2_ := (Option.bind_some _ _).symm.trans H; with_reducible exact H2_) | with_reducible exact H | (rw [hy318]; exact H) | exact H
                      have Ny318 := Aside0.mk hy318
                      clear hy318
                      by_cases c52 : x3_4.length + y318.length < 8796093022208
                      ·
                       rw [if_pos c52] at H
                       have LMc52 := Aside0.mk c52
                       clear c52
                       obtain ⟨y321, hy321⟩ : ∃ y_ : List ByteArray, y_ = (x3_4 ++ y318) := ⟨_, rfl⟩
                       replace H : (thresherlaw16_EntBytes.l1 k4 y321 x4_1 t298 t299 0 t303 (wrap64 (x11_4 + 1)) l0_0 a0_1) = some r := by first | (rw [hy321]; with_reducible exact H) | (have H2_ := (Option.bind_some _ _).symm.trans H; rw [hy321]; with_reducible exact H2_) | (have H2_ := (Option.bind_some _ _).symm.trans H; with_reducible exact H2_) | with_reducible exact H | (rw [hy321]; exact H) | exact H
                       have Ny321 := Aside0.mk hy321
                       clear hy321
                       have H' := Aside0.mk H
                       clear H
                       try go_wp2_with (first | ((with_reducible refine gate_dst (N := 83) rfl ?_); refine Kd.B_conv 5 rfl (N := 83) rfl 9 44 _ t303 rfl rfl Try.underlying9 Try.underlying44 Try.underlying5 (ok := fun _ => True) (okp := fun _ => True) (fun _ hk => hk) trivial (by first | omega | exact of_decide_eq_true (by first | (with_reducible assumption) | assumption)) (Below.refl _ _) (Nat.le_refl _) ?_; intro v314 w53 ho54 hb hg_ hnew_; clear hg_ hnew_; (first | rw [← Ny313.out] at ho54 | (simp only [Int.reduceToNat] at ho54; rw [← Ny313.out] at ho54)); have n0_ := Aside0.mk (Kd.R_below (by (with_reducible repeat (first | apply Kd.R_alloc | apply Kd.R_drewN | apply Kd.R_drew)); exact HO_3.out) hb); have n1_ := Aside0.mk (Kd.B_lower ho54 (below_size (by repeat (first | (with_reducible first | exact HB.out | apply below_alloc | apply pw_below_drewN | apply below_drew1 | refine below_set ?_ GE292.out | refine below_set ?_ GE310.out) | exact HB.out)))); have n2_ := Aside0.mk (blk_below (g := gb292) (o := .cells #[.slice (some ad297) l0_0.length c0_0, .string a0_1] 24 (0, 0)) (by (with_reducible repeat (first | refine blk_drewN ?_ _ | refine blk_drew ?_ | refine blk_alloc ?_ _)); exact BK292.out) hb); have n3_ := Aside0.mk (blk_below (g := gb310) (o := .cells #[.int .i64 t304, .int .i64 t305, .int .i64 t306, .int .i64 t307, .string t308] 26 (0, 0)) (by (with_reducible repeat (first | refine blk_drewN ?_ _ | refine blk_drew ?_ | refine blk_alloc ?_ _)); exact BK310.out) hb); have n4_ := Aside0.mk (below_step (by repeat (first | (with_reducible first | exact HB.out | apply below_alloc | apply pw_below_drewN | apply below_drew1 | refine below_set ?_ GE292.out | refine below_set ?_ GE310.out) | exact HB.out)) hb); clear HO_3; clear BK292; clear BK310; clear HB; have HO_3 := n0_; have HO315 := n1_; have BK292 := n2_; have BK310 := n3_; have HB := n4_; clear n0_ n1_ n2_ n3_ n4_; clear hb ho54; obtain ⟨Ao55, co55, eo55⟩ := Kd.B_slice HO315.out; subst eo55; have p316 : 0 ≤ (x11_4 : Int) := of_decide_eq_true (by first | (with_reducible assumption) | assumption); have q316 : x11_4 < (y313.length : Int) := of_decide_eq_true (by first | (with_reducible assumption) | assumption); obtain ⟨ad316, e316, hx316_0⟩ := Kd.at_int (Kd.B_reads' HO315.out).2.2 x11_4 p316 q316; cases e316; replace p316 := eq_true p316; replace q316 := eq_true q316; have p49 : 0 ≤ (x11_4 : Int) := of_decide_eq_true (by first | (with_reducible assumption) | assumption); have q49 : (x11_4 : Int) < ((y313.length : Int) : Int) := of_decide_eq_true (by first | (with_reducible assumption) | assumption); obtain ⟨go49, co49, eo49, gb49, gl49, cl49, HG49⟩ := Kd.B_form HO315.out (by omega); (first | cases eo49 | (injection eo49 with ea_ en_ ec_; (first | subst ea_ | (injection ea_ with ea_; subst ea_)); subst ec_; clear en_)); have GB49 := Aside0.mk gb49; have GG49 := Aside0.mk HG49; clear gb49 gl49 HG49; (first | simp only [add_plain] at hx316_0 | skip); obtain ⟨hx49_0, hf49_0⟩ := Kd.B_celln 0 HO315.out (x11_4 : Int) p49 q49; replace p49 := eq_true p49; replace q49 := eq_true q49; obtain ⟨hy56_, hz56_⟩ := Kd.B_celln 0 HO315.out (x11_4 : Int) (of_decide_eq_true (by first | (with_reducible assumption) | assumption)) (of_decide_eq_true (by first | (with_reducible assumption) | assumption)); have HP56 := Kd.B_putg HO315.out (x11_4 : Int) (Go.bits .xor .u8 (rd y313 x11_4) ((wrap64 (1 + (Int.tmod (wrap64 ((wrap64 (x4_1 * 17)) + x11_4)) 255))) % 256))) | ((with_reducible refine gate_store (t := 5) (p := 98) rfl ?_); refine store_event (t := 5) (p := 98) (v := ?vo_w57) (w1 := (w53.setCell ⟨go49, (x11_4 : Int).toNat, none⟩ (.int .u8 (Go.bits .xor .u8 (rd y313 x11_4) ((wrap64 (1 + (Int.tmod (wrap64 ((wrap64 (x4_1 * 17)) + x11_4)) 255))) % 256))))) ?hg ?ho ?hn ?hr ?_; (case ho => rfl); (case hg => rfl); (case hn => rfl); (case hr => first | (go_simp; done) | (go_simp; rfl)); intro w57 hw; have hg : w53.grownBy w57 (some go49) := (by rw [hw]; exact HP56.2); have hp_ : Kd.B (Kd.int .u8) 5 w57 w.heap.size (fun _ => True) (.slice (some ⟨go49, 0, none⟩) y313.length co55) y317 := (by rw [hw, Ny317.out]; exact HP56.1); clear HP56; have n0_ := Aside0.mk (Kd.R_overF (v := (.slice (some ⟨go49, 0, none⟩) y313.length co55)) (by (with_reducible repeat (first | apply Kd.R_alloc | apply Kd.R_drewN | apply Kd.R_drew)); exact HO_3.out) (Kd.B_typed HO315.out) (by decide) hg); have n1_ := Aside0.mk (blk_grown (g := gb292) (o := .cells #[.slice (some ad297) l0_0.length c0_0, .string a0_1] 24 (0, 0)) (by (with_reducible repeat (first | refine blk_drewN ?_ _ | refine blk_drew ?_ | refine blk_alloc ?_ _)); exact BK292.out) hg (Kd.B_ne HO315.out BK292.out (by decide))); have n2_ := Aside0.mk (blk_grown (g := gb310) (o := .cells #[.int .i64 t304, .int .i64 t305, .int .i64 t306, .int .i64 t307, .string t308] 26 (0, 0)) (by (with_reducible repeat (first | refine blk_drewN ?_ _ | refine blk_drew ?_ | refine blk_alloc ?_ _)); exact BK310.out) hg (Kd.B_ne HO315.out BK310.out (by decide))); have n3_ := Aside0.mk (hp_); have n4_ := Aside0.mk ((by rw [hw]; exact below_set (HB.out) GB49.out : Below w.heap.size w w57)); clear HO_3; clear BK292; clear BK310; clear HO315; clear HB; have HO_3 := n0_; have BK292 := n1_; have BK310 := n2_; have HO315 := n3_; have HB := n4_; clear n0_ n1_ n2_ n3_ n4_; clear hg hw hp_))
                       have n0_ := Aside0.mk (Kd.R_drew HO_3.out)
                       have n1_ := Aside0.mk (Kd.B_drew HO315.out)
                       have n2_ := Aside0.mk (blk_drew BK292.out)
                       have n3_ := Aside0.mk (blk_drew BK310.out)
                       have n4_ := Aside0.mk (below_drew1 HB.out)
                       clear HO_3
                       clear HO315
                       clear BK292
                       clear BK310
                       clear HB
                       have HO_3 := n0_
                       have HO315 := n1_
                       have BK292 := n2_
                       have BK310 := n3_
                       have HB := n4_
                       clear n0_ n1_ n2_ n3_ n4_
                       refine start_ (n := 9) (S := fun w' => True) (ds := []) #[false, false, false, false, false, false, false, false, false] (by kernel_rfl) rfl rfl trivial (fun hHeld => ?_); refine with_tabW thresherlaw16_EntBytes.tab19 thresherlaw16_EntBytes.bits19 (fun HT_ HW_ => ?_)
                       generalize w57.drew = w58 at HO_3 HO315 BK292 BK310 HB hHeld ⊢
                       refine pure_ (i := 0) (N := some 99) (v := ?_) (a' := ?_) #[true, false, false, false, false, false, false, false, false] rfl rfl (any_of HT_.out (by kernel_rfl)) (fun _ _ _ h => h) (Or.inl ⟨by rfl, ?_⟩) ?_ ?_
                       rotate_left
                       ·
                        intro w'
                        go_simp
                        with_reducible rfl
                       rotate_left
                       ·
                        simp only [Act.put, List.setIfInBounds_toArray, List.set_cons_zero, List.set_cons_succ, i64_w, i32_w]
                        rfl
                       refine pure_ (i := 1) (N := some 100) (v := ?_) (a' := ?_) #[true, true, false, false, false, false, false, false, false] rfl rfl (any_of HT_.out (by kernel_rfl)) (fun _ _ _ h => h) (Or.inl ⟨by rfl, ?_⟩) ?_ ?_
                       rotate_left
                       ·
                        intro w'
                        go_simp
                        with_reducible rfl
                       rotate_left
                       ·
                        simp only [Act.put, List.setIfInBounds_toArray, List.set_cons_zero, List.set_cons_succ, i64_w, i32_w]
                        rfl
                       refine pure_ (i := 3) (N := some 102) (v := ?_) (a' := ?_) #[true, true, false, true, false, false, false, false, false] rfl rfl (any_of HT_.out (by kernel_rfl)) (fun _ _ _ h => h) (Or.inl ⟨by rfl, ?_⟩) ?_ ?_
                       rotate_left
                       ·
                        intro w'
                        go_simp
                        with_reducible rfl
                       rotate_left
                       ·
                        simp only [Act.put, List.setIfInBounds_toArray, List.set_cons_zero, List.set_cons_succ, i64_w, i32_w]
                        rfl
                       refine pure_ (i := 4) (N := some 103) (v := ?_) (a' := ?_) #[true, true, false, true, true, false, false, false, false] rfl rfl (any_of HT_.out (by kernel_rfl)) (fun _ _ _ h => h) (Or.inl ⟨by rfl, ?_⟩) ?_ ?_
                       rotate_left
                       ·
                        intro w'
                        go_simp
                        with_reducible rfl
                       rotate_left
                       ·
                        simp only [Act.put, List.setIfInBounds_toArray, List.set_cons_zero, List.set_cons_succ, i64_w, i32_w]
                        rfl
                       refine pure_ (i := 5) (N := some 104) (v := ?_) (a' := ?_) #[true, true, false, true, true, true, false, false, false] rfl rfl (any_of HT_.out (by kernel_rfl)) (fun _ _ _ h => h) (Or.inl ⟨by rfl, ?_⟩) ?_ ?_
                       rotate_left
                       ·
                        intro w'
                        go_simp
                        with_reducible rfl
                       rotate_left
                       ·
                        simp only [Act.put, List.setIfInBounds_toArray, List.set_cons_zero, List.set_cons_succ, i64_w, i32_w]
                        rfl
                       refine one_ (i := 2) (N := some 101) #[true, true, true, true, true, true, false, false, false] rfl rfl (one_of HT_.out (by kernel_rfl)) (by decide) (fun K hK => ?_)
                       have hcv59 := Kd.B_string (P := Try.prog) Try.underlying44 Try.underlying5 Try.underlying9 HO315.out
                       refine value_ (w1 := ?_) (v := ?_) (by rfl) rfl ?_ ?_
                       rotate_left 2
                       ·
                        go_simp
                        constructor
                        ·
                         rfl
                        ·
                         rfl
                       clear hcv59
                       refine hK.out _ _ trivial (fun hHeld => ?_)
                       clear hK K
                       refine norm_ (a' := ?_) ?_ ?_
                       rotate_left
                       ·
                        show Act.put _ (some 101) _ = _
                        simp only [Act.put, List.setIfInBounds_toArray, List.set_cons_zero, List.set_cons_succ, i64_w, i32_w]
                        rfl
                       refine one_ (i := 6) (N := some 105) #[true, true, true, true, true, true, true, false, false] rfl rfl (one_of HT_.out (by kernel_rfl)) (by decide) (fun K hK => ?_)
                       refine Kd.R_lit_step Kd.string _ 9 ?hg (N := 105) ?hd (xs := ([strOfNums y317, t303.extract 0 (x11_4 : Int).toNat] : List ByteArray)) (inner := [.string (strOfNums y317), .string (t303.extract 0 (x11_4 : Int).toNat)]) (ok := fun _ => True) (okp := fun _ => True) ?hr ?hp (fun _ hk => hk) trivial (Below.refl _ _) (Nat.le_refl _) (by simp) ?_; (case hd => rfl); (case hg => rfl); (case hr => first | (go_simp; done) | (go_simp; rfl)); (case hp => exact (Reps.one (show Kd.M Kd.string _ _ _ (strOfNums y317) [.string (strOfNums y317)] from rfl) (Reps.one (show Kd.M Kd.string _ _ _ (t303.extract 0 (x11_4 : Int).toNat) [.string (t303.extract 0 (x11_4 : Int).toNat)] from rfl) (Reps.none _ _))))
                       intro v319 w60 ho61 hb hg_ hnew_
                       clear hg_ hnew_
                       (first | rw [← Ny318.out] at ho61 | (simp only [Int.reduceToNat] at ho61; rw [← Ny318.out] at ho61))
                       have n0_ := Aside0.mk (Kd.R_elder' (by (with_reducible repeat (first | apply Kd.R_alloc | apply Kd.R_drewN | apply Kd.R_drew)); exact HO_3.out) (Kd.R_base ho61) hb)
                       have n1_ := Aside0.mk (Kd.B_below (by (with_reducible repeat (first | apply Kd.B_alloc | apply Kd.B_drewN | apply Kd.B_drew)); exact HO315.out) hb)
                       have n2_ := Aside0.mk (Kd.R_lower (Kd.R_new' ho61 (Kd.R_lt (by (with_reducible repeat (first | apply Kd.R_alloc | apply Kd.R_drewN | apply Kd.R_drew)); exact HO_3.out))) (below_size (by repeat (first | (with_reducible first | exact HB.out | apply below_alloc | apply pw_below_drewN | apply below_drew1 | refine below_set ?_ GE292.out | refine below_set ?_ GE310.out) | exact HB.out))))
                       have n3_ := Aside0.mk (blk_below (g := gb292) (o := .cells #[.slice (some ad297) l0_0.length c0_0, .string a0_1] 24 (0, 0)) (by (with_reducible repeat (first | refine blk_drewN ?_ _ | refine blk_drew ?_ | refine blk_alloc ?_ _)); exact BK292.out) hb)
                       have n4_ := Aside0.mk (blk_below (g := gb310) (o := .cells #[.int .i64 t304, .int .i64 t305, .int .i64 t306, .int .i64 t307, .string t308] 26 (0, 0)) (by (with_reducible repeat (first | refine blk_drewN ?_ _ | refine blk_drew ?_ | refine blk_alloc ?_ _)); exact BK310.out) hb)
                       have n5_ := Aside0.mk (below_step (by repeat (first | (with_reducible first | exact HB.out | apply below_alloc | apply pw_below_drewN | apply below_drew1 | refine below_set ?_ GE292.out | refine below_set ?_ GE310.out) | exact HB.out)) hb)
                       clear HO_3
                       clear HO315
                       clear BK292
                       clear BK310
                       clear HB
                       have HO_3 := n0_
                       have HO315 := n1_
                       have HO320 := n2_
                       have BK292 := n3_
                       have BK310 := n4_
                       have HB := n5_
                       clear n0_ n1_ n2_ n3_ n4_ n5_
                       clear hb ho61
                       obtain ⟨Ao63, co63, eo63⟩ := Kd.R_slice HO320.out
                       (first | subst eo63 | (injection eo63 with f1_ f2_ f3_; have f4_ := f1_.symm; have f5_ := f3_.symm; clear f1_ f2_ f3_; subst f4_; subst f5_))
                       refine hK.out _ _ trivial (fun hHeld => ?_)
                       clear hK K
                       refine norm_ (a' := ?_) ?_ ?_
                       rotate_left
                       ·
                        show Act.put _ (some 105) _ = _
                        simp only [Act.put, List.setIfInBounds_toArray, List.set_cons_zero, List.set_cons_succ, i64_w, i32_w]
                        rfl
                       refine one_ (i := 7) (N := some 106) #[true, true, true, true, true, true, true, true, false] rfl rfl (one_of HT_.out (by kernel_rfl)) (by decide) (fun K hK => ?_)
                       refine Kd.R_append_rows_step Kd.string (w0 := w) w.heap.size (by rfl) (.tmp 99) (.tmp 105) 32 9 (.string ⟨#[]⟩) 16 rfl Try.underlying32 info9 rfl (by decide) (by omega) u3 x3_4 y318 _ _ _ (fun k_ => some k_ ≠ (.slice Ao63 y318.length co63 : Value).ownBlock) (fun _ => False) rfl rfl ?aO ?aR (fun _ _ h => h) (fun _ h => h.elim) ?aF ?aB ?aS ?aL ?_
                       (case aR => repeat (first | exact (Kd.R_reads' HO320.out).2.2 | (with_reducible refine Kd.C_alloc ?_ _) | (with_reducible refine Kd.C_drewN ?_ _) | (with_reducible refine Kd.C_drew ?_)))
                       (case aB => exact (by repeat (first | (with_reducible first | exact HB.out | apply below_alloc | apply pw_below_drewN | apply below_drew1 | refine below_set ?_ GE292.out | refine below_set ?_ GE310.out) | exact HB.out)))
                       (case aF => exact (fun k_ hk => Kd.fresh' (Kd.R_lt (by (with_reducible repeat (first | apply Kd.R_alloc | apply Kd.R_drewN | apply Kd.R_drew)); exact HO320.out)) k_ hk))
                       (case aO => exact (by (with_reducible repeat (first | apply Kd.R_alloc | apply Kd.R_drewN | apply Kd.R_drew)); exact Kd.R_mono HO_3.out (fun _ hk => hk.2)))
                       (case aS => exact (below_size (by repeat (first | (with_reducible first | exact HB.out | apply below_alloc | apply pw_below_drewN | apply below_drew1 | refine below_set ?_ GE292.out | refine below_set ?_ GE310.out) | exact HB.out))))
                       (case aL => have := LMc52.out; omega)
                       intro v322 w62 ho hb hg hat
                       rw [← Ny321.out] at ho
                       have n0_ := Aside0.mk (blk_grown (g := gb292) (o := .cells #[.slice (some ad297) l0_0.length c0_0, .string a0_1] 24 (0, 0)) (by (with_reducible repeat (first | refine blk_drewN ?_ _ | refine blk_drew ?_ | refine blk_alloc ?_ _)); exact BK292.out) hg (Kd.R_ne HO_3.out BK292.out (by decide)))
                       have n1_ := Aside0.mk (blk_grown (g := gb310) (o := .cells #[.int .i64 t304, .int .i64 t305, .int .i64 t306, .int .i64 t307, .string t308] 26 (0, 0)) (by (with_reducible repeat (first | refine blk_drewN ?_ _ | refine blk_drew ?_ | refine blk_alloc ?_ _)); exact BK310.out) hg (Kd.R_ne HO_3.out BK310.out (by decide)))
                       have n2_ := Aside0.mk (Kd.B_over' (by (with_reducible repeat (first | apply Kd.B_alloc | apply Kd.B_drewN | apply Kd.B_drew)); exact HO315.out) (Kd.R_typed (by (with_reducible repeat (first | apply Kd.R_alloc | apply Kd.R_drewN | apply Kd.R_drew)); exact HO_3.out)) (by decide) hg)
                       have n3_ := Aside0.mk (Kd.R_after (ok := (fun _ => True)) (by (with_reducible repeat (first | apply Kd.R_alloc | apply Kd.R_drewN | apply Kd.R_drew)); exact HO320.out) hg hat)
                       have n4_ := Aside0.mk (hb)
                       have n5_ := Aside0.mk (ho)
                       clear BK292
                       clear BK310
                       clear HO315
                       clear HO320
                       clear HB
                       clear HO_3
                       have BK292 := n0_
                       have BK310 := n1_
                       have HO315 := n2_
                       have HO320 := n3_
                       have HB := n4_
                       have HO323 := n5_
                       clear n0_ n1_ n2_ n3_ n4_ n5_
                       clear ho hb hg hat
                       refine hK.out _ _ trivial (fun hHeld => ?_)
                       clear hK K
                       refine norm_ (a' := ?_) ?_ ?_
                       rotate_left
                       ·
                        show Act.put _ (some 106) _ = _
                        simp only [Act.put, List.setIfInBounds_toArray, List.set_cons_zero, List.set_cons_succ, i64_w, i32_w]
                        rfl
                       refine pure_ (i := 8) (N := some 3) (v := ?_) (a' := ?_) #[true, true, true, true, true, true, true, true, true] rfl rfl (any_of HT_.out (by kernel_rfl)) (fun _ _ _ h => h) (Or.inl ⟨by rfl, ?_⟩) ?_ ?_
                       rotate_left
                       ·
                        intro w'
                        go_simp
                        with_reducible rfl
                       rotate_left
                       ·
                        simp only [Act.put, List.setIfInBounds_toArray, List.set_cons_zero, List.set_cons_succ, i64_w, i32_w]
                        rfl
                       refine done_ (done_of HT_.out (by kernel_rfl)) ?_
                       try go_wp2
                       go_roundg k4
                       case measure => have := HK1.out; have := HJ12.out; have := HJ29.out; have := HK4.out; omega
                       case rel => exact ⟨(y321), (wrap64 (x11_4 + 1)), (by first | rfl | (simp; done) | (simp [*]; done)), H', ⟨by have := HK1.out; have := HJ12.out; have := HJ29.out; have := HK4.out; omega⟩, ⟨by (with_reducible repeat (first | apply Kd.R_alloc | apply Kd.R_drewN | apply Kd.R_drew)); exact Kd.R_mono HO323.out (fun _ hk => trivial)⟩, ⟨by (with_reducible repeat (first | refine blk_drewN ?_ _ | refine blk_drew ?_ | refine blk_alloc ?_ _)); exact BK292.out⟩, ⟨by (with_reducible repeat (first | refine blk_drewN ?_ _ | refine blk_drew ?_ | refine blk_alloc ?_ _)); exact BK310.out⟩, ⟨by repeat (first | (with_reducible first | exact HB.out | apply below_alloc | apply pw_below_drewN | apply below_drew1 | refine below_set ?_ GE292.out | refine below_set ?_ GE310.out) | exact HB.out)⟩⟩
                      ·
                       rw [if_neg c52] at H
                       exact absurd H (by simp)
                     ·
                      rw [if_neg c51] at H
                      exact absurd H (by simp)
                    ·
                     rw [if_neg c48] at H
                     exact absurd H (by simp)
                   ·
                    rw [if_neg c47] at H
                    exact absurd H (by simp)
                  ·
                   rw [if_neg c46] at H
                   exact absurd H (by simp)
                 ·
                  rw [if_neg c45] at H
                  have c45b0 : decide (x11_4 < 10) = false := decide_eq_false c45
                  clear c45
                  have H' := Aside0.mk H
                  clear H
                  go_wp2
                  go_meet
                  case rel => exact ⟨_, (x3_4), (0), (t303), (by first | rfl | (simp; done) | (simp [*]; done)), (by first | rfl | (simp; done) | (simp [*]; done)), H', ⟨by have := HK1.out; have := HJ12.out; have := HJ29.out; have := HK4.out; first | omega | exact Nat.le_refl _⟩, ⟨by (with_reducible repeat (first | apply Kd.R_alloc | apply Kd.R_drewN | apply Kd.R_drew)); exact HO_3.out⟩, ⟨by (with_reducible repeat (first | refine blk_drewN ?_ _ | refine blk_drew ?_ | refine blk_alloc ?_ _)); exact BK292.out⟩, ⟨by repeat (first | (with_reducible first | exact HB.out | apply below_alloc | apply pw_below_drewN | apply below_drew1 | refine below_set ?_ GE292.out | refine below_set ?_ GE310.out) | exact HB.out)⟩⟩
                ·
                 rw [if_neg c44] at H
                 have c44b0 : decide (x11_4 < (t303.size : Int)) = false := decide_eq_false c44
                 clear c44
                 have H' := Aside0.mk H
                 clear H
                 go_wp2
                 go_meet
                 case rel => exact ⟨_, (x3_4), (0), (t303), (by first | rfl | (simp; done) | (simp [*]; done)), (by first | rfl | (simp; done) | (simp [*]; done)), H', ⟨by have := HK1.out; have := HJ12.out; have := HJ29.out; have := HK4.out; first | omega | exact Nat.le_refl _⟩, ⟨by (with_reducible repeat (first | apply Kd.R_alloc | apply Kd.R_drewN | apply Kd.R_drew)); exact HO_3.out⟩, ⟨by (with_reducible repeat (first | refine blk_drewN ?_ _ | refine blk_drew ?_ | refine blk_alloc ?_ _)); exact BK292.out⟩, ⟨by repeat (first | (with_reducible first | exact HB.out | apply below_alloc | apply pw_below_drewN | apply below_drew1 | refine below_set ?_ GE292.out | refine below_set ?_ GE310.out) | exact HB.out)⟩⟩
          ·
           replace c27 := Bool.eq_false_iff.mpr c27
           subst c27
           have H1 : (thresherlaw16_EntBytes.j4 kj12 x3_1 x4_1 t298 t299 1 (⟨#[]⟩ : ByteArray) l0_0 a0_1) = some r := by rw [if_neg (show ¬ (false = true) by decide)] at H; exact H
           clear H
           have H := H1
           clear H1
           have H' := Aside0.mk H
           clear H
           go_wp2
           go_meet
           case rel => exact ⟨_, (x3_1), (1), ((⟨#[]⟩ : ByteArray)), (by first | rfl | (simp; done) | (simp [*]; done)), (by first | rfl | (simp; done) | (simp [*]; done)), H', ⟨by have := HK1.out; have := HJ12.out; first | omega | exact Nat.le_refl _⟩, ⟨by (with_reducible repeat (first | apply Kd.R_alloc | apply Kd.R_drewN | apply Kd.R_drew)); exact HO_3.out⟩, ⟨by (with_reducible repeat (first | refine blk_drewN ?_ _ | refine blk_drew ?_ | refine blk_alloc ?_ _)); exact BK292.out⟩, ⟨by repeat (first | (with_reducible first | exact HB.out | apply below_alloc | apply pw_below_drewN | apply below_drew1 | refine below_set ?_ GE292.out) | exact HB.out)⟩⟩
         case rest =>
          clear HC22
          (try clear c1); (try clear c2); (try clear p2); (try clear q2); (try clear hx2); (try clear c3); (try clear p3); (try clear q3); (try clear hx3); (try clear c4); (try clear p4); (try clear q4); (try clear hx4); (try clear hf4); (try clear c5); (try clear hcv5); (try clear c6); (try clear p6); (try clear c12); (try clear c14); (try clear c14b0); (try clear c17); (try clear c18); (try clear c18b0); (try clear c19); (try clear c19b0); (try clear c26); (try clear c27); (try clear c28); (try clear c29); (try clear p29); (try clear q29); (try clear hx29); (try clear c30); (try clear p30); (try clear q30); (try clear hx30); (try clear p31); (try clear q31); (try clear hx31); (try clear c35); (try clear c38); (try clear c38b0); (try clear c38b1); (try clear c43); (try clear c44); (try clear c44b0); (try clear c45); (try clear c45b0); (try clear c46); (try clear c46b0); (try clear c46b1); (try clear c46b2); (try clear c47); (try clear c47b0); (try clear c48); (try clear c48b0); (try clear p49); (try clear q49); (try clear hx49); (try clear hf49); (try clear c50); (try clear c50b0); (try clear c51); (try clear c51b0); (try clear c51b1); (try clear c52); (try clear hcv59); (try clear hcz10_0); (try clear hcz10_1); (try clear hcz15_0); (try clear hcz15_1); (try clear hcz16_0); (try clear hcz16_1); (try clear hcz23_0); (try clear hcz23_1); (try clear hcz25_0); (try clear hcz25_1); (try clear hcz31_0); (try clear hcz31_1); (try clear hcz36_0); (try clear hcz36_1); (try clear hcz36_2); (try clear hcz36_3); (try clear hcz36_4); (try clear hcz5_0); (try clear hcz5_1); (try clear hcz8_0); (try clear hcz8_1); (try clear hfz10_0); (try clear hfz15_0); (try clear hfz16_0); (try clear hfz23_0); (try clear hfz25_0); (try clear hfz31_0); (try clear hfz36_0); (try clear hfz5_0); (try clear hfz8_0); (try clear hx297_0); (try clear hx297_1); (try clear hx297_2); (try clear hx297_3); (try clear hx297_4); (try clear hx300_0); (try clear hx300_1); (try clear hx300_2); (try clear hx300_3); (try clear hx300_4); (try clear hx302_0); (try clear hx302_1); (try clear hx302_2); (try clear hx302_3); (try clear hx302_4); (try clear hx312_0); (try clear hx312_1); (try clear hx312_2); (try clear hx312_3); (try clear hx312_4); (try clear hx316_0); (try clear hx49_0); (try clear p2); (try clear p29); (try clear p297); (try clear p3); (try clear p30); (try clear p300); (try clear p302); (try clear p31); (try clear p312); (try clear p316); (try clear p49); (try clear q2); (try clear q29); (try clear q297); (try clear q3); (try clear q30); (try clear q300); (try clear q302); (try clear q31); (try clear q312); (try clear q316); (try clear q49)
          obtain ⟨kq, x3_21, x7_21, x8_21, rfl, rfl, HA, HJ21, HO_3, BK292, HB⟩ := hcut
          cases kq with
          | zero => exact absurd HA.out (by simp [thresherlaw16_EntBytes.j4])
          | succ kj21 =>
           have H := HA.out
           clear HA
           simp only [thresherlaw16_EntBytes.j4] at H
           by_cases c64 : 0 ≤ x4_1
           ·
            rw [if_pos c64] at H
            have c64b0 : decide (0 ≤ x4_1) = true := decide_eq_true c64
            clear c64
            by_cases c65 : x4_1 < (l0_0.length : Int)
            ·
             rw [if_pos c65] at H
             have c65b0 : decide (x4_1 < (l0_0.length : Int)) = true := decide_eq_true c65
             clear c65
             replace H := Option.bind_eq_some_iff.mp H
             obtain ⟨t325, A660, H⟩ := H
             replace H : ((thresherlaw16_num.f t325).bind fun t326 => (if t326 = x7_21 then ((thresherlaw16_num.f t299).bind fun t327 => (if t327 = x7_21 then (if t298.toList = x8_21.toList then (thresherlaw16_EntBytes.l0 kj21 x3_21 (wrap64 (x4_1 + 1)) l0_0 a0_1) else (some false)) else (some false))) else (some false))) = some r := H
             have A66 := Aside0.mk A660
             clear A660
             replace H := Option.bind_eq_some_iff.mp H
             obtain ⟨t326, A670, H⟩ := H
             replace H : (if t326 = x7_21 then ((thresherlaw16_num.f t299).bind fun t327 => (if t327 = x7_21 then (if t298.toList = x8_21.toList then (thresherlaw16_EntBytes.l0 kj21 x3_21 (wrap64 (x4_1 + 1)) l0_0 a0_1) else (some false)) else (some false))) else (some false)) = some r := H
             have A67 := Aside0.mk A670
             clear A670
             by_cases c68 : t326 = x7_21
             ·
              rw [if_pos c68] at H
              have c68b0 : (t326 == x7_21) = true := beq_iff_eq.mpr c68
              have c68b1 : (t326 != x7_21) = false := bne_eq_false_iff_eq.mpr c68
              clear c68
              replace H := Option.bind_eq_some_iff.mp H
              obtain ⟨t327, A690, H⟩ := H
              replace H : (if t327 = x7_21 then (if t298.toList = x8_21.toList then (thresherlaw16_EntBytes.l0 kj21 x3_21 (wrap64 (x4_1 + 1)) l0_0 a0_1) else (some false)) else (some false)) = some r := H
              have A69 := Aside0.mk A690
              clear A690
              by_cases c70 : t327 = x7_21
              ·
               rw [if_pos c70] at H
               have c70b0 : (t327 == x7_21) = true := beq_iff_eq.mpr c70
               have c70b1 : (t327 != x7_21) = false := bne_eq_false_iff_eq.mpr c70
               clear c70
               by_cases c71 : t298.toList = x8_21.toList
               ·
                rw [if_pos c71] at H
                have c71b0 : (t298.toList == x8_21.toList) = true := beq_iff_eq.mpr c71
                have c71b1 : (t298.toList != x8_21.toList) = false := bne_eq_false_iff_eq.mpr c71
                clear c71
                have H' := Aside0.mk H
                clear H
                obtain ⟨hcz72_0, hcz72_1⟩ := cells2 BK292.out
                have hfz72_0 := fun i_ => blk_frozen BK292.out i_
                have p324 : 0 ≤ (x4_1 : Int) := of_decide_eq_true (by first | (with_reducible assumption) | assumption)
                have q324 : x4_1 < (l0_0.length : Int) := of_decide_eq_true (by first | (with_reducible assumption) | assumption)
                obtain ⟨ad324, e324, hx324_0, hx324_1, hx324_2, hx324_3, hx324_4⟩ := at_T26 HR0_0.out x4_1 p324 q324
                obtain rfl : ad297 = ad324 := (by injection e324)
                replace hx324_0 := (HB.out.cell (World.block_lt_of_cell? w _ hx324_0)).trans hx324_0
                replace hx324_1 := (HB.out.cell (World.block_lt_of_cell? w _ hx324_1)).trans hx324_1
                replace hx324_2 := (HB.out.cell (World.block_lt_of_cell? w _ hx324_2)).trans hx324_2
                replace hx324_3 := (HB.out.cell (World.block_lt_of_cell? w _ hx324_3)).trans hx324_3
                replace hx324_4 := (HB.out.cell (World.block_lt_of_cell? w _ hx324_4)).trans hx324_4
                replace p324 := eq_true p324
                replace q324 := eq_true q324
                go_wp2_with (first | ((with_reducible refine gate_callee (f := 13) rfl ?_); refine goesL_ (some 112) rfl rfl Try.func13 (by kernel_rfl) rfl #[.agg #[.int .i64 ((rd_T26 l0_0 x4_1).f0), .int .i64 ((rd_T26 l0_0 x4_1).f1), .int .i64 ((rd_T26 l0_0 x4_1).f2), .int .i64 ((rd_T26 l0_0 x4_1).f3), .string ((rd_T26 l0_0 x4_1).f4)]] rfl (by (try simp only [List.map_toArray, List.map_cons, List.map_nil]); first | done | rfl | (simp only [List.length_drop, List.length_take]; rfl)) ?_; (with_reducible refine (ent_Check.calls kj21 ((rd_T26 l0_0 x4_1).f0) ((rd_T26 l0_0 x4_1).f1) ((rd_T26 l0_0 x4_1).f2) ((rd_T26 l0_0 x4_1).f3) ((rd_T26 l0_0 x4_1).f4) t325 _ A66.out).mono ?_); rintro e w73 ⟨rfl, hb⟩; refine ⟨_, rfl, ?_⟩; have n0_ := Aside0.mk (Kd.R_below (by (with_reducible repeat (first | apply Kd.R_alloc | apply Kd.R_drewN | apply Kd.R_drew)); exact HO_3.out) hb); have n1_ := Aside0.mk (blk_below (g := gb292) (o := .cells #[.slice (some ad297) l0_0.length c0_0, .string a0_1] 24 (0, 0)) (by (with_reducible repeat (first | refine blk_drewN ?_ _ | refine blk_drew ?_ | refine blk_alloc ?_ _)); exact BK292.out) hb); have n2_ := Aside0.mk (below_step (by repeat (first | (with_reducible first | exact HB.out | apply below_alloc | apply pw_below_drewN | apply below_drew1 | refine below_set ?_ GE292.out) | exact HB.out)) hb); clear HO_3; clear BK292; clear HB; have HO_3 := n0_; have BK292 := n1_; have HB := n2_; clear n0_ n1_ n2_; (try clear hb); (try clear hb2); (try clear hk); (try clear hi)) | ((with_reducible refine gate_callee (f := 12) rfl ?_); refine goesL_ (some 113) rfl rfl Try.func12 (by kernel_rfl) rfl #[.int .i64 t325] rfl (by (try simp only [List.map_toArray, List.map_cons, List.map_nil]); first | done | rfl | (simp only [List.length_drop, List.length_take]; rfl)) ?_; (with_reducible refine (thresherlaw16_num.calls t325 t326 _ A67.out).mono ?_); rintro e w' ⟨rfl, ⟨nd, rfl⟩⟩; refine ⟨_, rfl, ?_⟩) | (go_at_call 12; (with_reducible refine (thresherlaw16_num.calls t299 t327 _ A69.out).mono ?_); rintro e w' ⟨rfl, ⟨nd, rfl⟩⟩))
                go_roundg kj21
                case measure => have := HK1.out; have := HJ12.out; have := HJ21.out; omega
                case rel => exact ⟨(x3_21), (wrap64 (x4_1 + 1)), (by first | rfl | (simp; done) | (simp [*]; done)), H', ⟨by have := HK1.out; have := HJ12.out; have := HJ21.out; omega⟩, ⟨by (with_reducible repeat (first | apply Kd.R_alloc | apply Kd.R_drewN | apply Kd.R_drew)); exact HO_3.out⟩, ⟨by (with_reducible repeat (first | refine blk_drewN ?_ _ | refine blk_drew ?_ | refine blk_alloc ?_ _)); exact BK292.out⟩, ⟨by repeat (first | (with_reducible first | exact HB.out | apply below_alloc | apply pw_below_drewN | apply below_drew1 | refine below_set ?_ GE292.out) | exact HB.out)⟩⟩
               ·
                rw [if_neg c71] at H
                have c71b0 : (t298.toList == x8_21.toList) = false := beq_eq_false_iff_ne.mpr c71
                have c71b1 : (t298.toList != x8_21.toList) = true := bne_iff_ne.mpr c71
                obtain rfl := Option.some.inj H
                obtain ⟨hcz74_0, hcz74_1⟩ := cells2 BK292.out
                have hfz74_0 := fun i_ => blk_frozen BK292.out i_
                have p324 : 0 ≤ (x4_1 : Int) := of_decide_eq_true (by first | (with_reducible assumption) | assumption)
                have q324 : x4_1 < (l0_0.length : Int) := of_decide_eq_true (by first | (with_reducible assumption) | assumption)
                obtain ⟨ad324, e324, hx324_0, hx324_1, hx324_2, hx324_3, hx324_4⟩ := at_T26 HR0_0.out x4_1 p324 q324
                obtain rfl : ad297 = ad324 := (by injection e324)
                replace hx324_0 := (HB.out.cell (World.block_lt_of_cell? w _ hx324_0)).trans hx324_0
                replace hx324_1 := (HB.out.cell (World.block_lt_of_cell? w _ hx324_1)).trans hx324_1
                replace hx324_2 := (HB.out.cell (World.block_lt_of_cell? w _ hx324_2)).trans hx324_2
                replace hx324_3 := (HB.out.cell (World.block_lt_of_cell? w _ hx324_3)).trans hx324_3
                replace hx324_4 := (HB.out.cell (World.block_lt_of_cell? w _ hx324_4)).trans hx324_4
                replace p324 := eq_true p324
                replace q324 := eq_true q324
                go_wp2_with (first | ((with_reducible refine gate_callee (f := 13) rfl ?_); refine goesL_ (some 112) rfl rfl Try.func13 (by kernel_rfl) rfl #[.agg #[.int .i64 ((rd_T26 l0_0 x4_1).f0), .int .i64 ((rd_T26 l0_0 x4_1).f1), .int .i64 ((rd_T26 l0_0 x4_1).f2), .int .i64 ((rd_T26 l0_0 x4_1).f3), .string ((rd_T26 l0_0 x4_1).f4)]] rfl (by (try simp only [List.map_toArray, List.map_cons, List.map_nil]); first | done | rfl | (simp only [List.length_drop, List.length_take]; rfl)) ?_; (with_reducible refine (ent_Check.calls kj21 ((rd_T26 l0_0 x4_1).f0) ((rd_T26 l0_0 x4_1).f1) ((rd_T26 l0_0 x4_1).f2) ((rd_T26 l0_0 x4_1).f3) ((rd_T26 l0_0 x4_1).f4) t325 _ A66.out).mono ?_); rintro e w75 ⟨rfl, hb⟩; refine ⟨_, rfl, ?_⟩; have n0_ := Aside0.mk (Kd.R_below (by (with_reducible repeat (first | apply Kd.R_alloc | apply Kd.R_drewN | apply Kd.R_drew)); exact HO_3.out) hb); have n1_ := Aside0.mk (blk_below (g := gb292) (o := .cells #[.slice (some ad297) l0_0.length c0_0, .string a0_1] 24 (0, 0)) (by (with_reducible repeat (first | refine blk_drewN ?_ _ | refine blk_drew ?_ | refine blk_alloc ?_ _)); exact BK292.out) hb); have n2_ := Aside0.mk (below_step (by repeat (first | (with_reducible first | exact HB.out | apply below_alloc | apply pw_below_drewN | apply below_drew1 | refine below_set ?_ GE292.out) | exact HB.out)) hb); clear HO_3; clear BK292; clear HB; have HO_3 := n0_; have BK292 := n1_; have HB := n2_; clear n0_ n1_ n2_; (try clear hb); (try clear hb2); (try clear hk); (try clear hi)) | ((with_reducible refine gate_callee (f := 12) rfl ?_); refine goesL_ (some 113) rfl rfl Try.func12 (by kernel_rfl) rfl #[.int .i64 t325] rfl (by (try simp only [List.map_toArray, List.map_cons, List.map_nil]); first | done | rfl | (simp only [List.length_drop, List.length_take]; rfl)) ?_; (with_reducible refine (thresherlaw16_num.calls t325 t326 _ A67.out).mono ?_); rintro e w' ⟨rfl, ⟨nd, rfl⟩⟩; refine ⟨_, rfl, ?_⟩) | (go_at_call 12; (with_reducible refine (thresherlaw16_num.calls t299 t327 _ A69.out).mono ?_); rintro e w' ⟨rfl, ⟨nd, rfl⟩⟩))
                go_ret
                exact ⟨by first | rfl | (simp [errW_none, errW_some] <;> rfl) | (simp [*, errW_none, errW_some] <;> rfl), by repeat (first | (with_reducible first | exact HB.out | apply below_alloc | apply pw_below_drewN | apply below_drew1 | refine below_set ?_ GE292.out) | exact HB.out)⟩
              ·
               rw [if_neg c70] at H
               have c70b0 : (t327 == x7_21) = false := beq_eq_false_iff_ne.mpr c70
               have c70b1 : (t327 != x7_21) = true := bne_iff_ne.mpr c70
               obtain rfl := Option.some.inj H
               obtain ⟨hcz76_0, hcz76_1⟩ := cells2 BK292.out
               have hfz76_0 := fun i_ => blk_frozen BK292.out i_
               have p324 : 0 ≤ (x4_1 : Int) := of_decide_eq_true (by first | (with_reducible assumption) | assumption)
               have q324 : x4_1 < (l0_0.length : Int) := of_decide_eq_true (by first | (with_reducible assumption) | assumption)
               obtain ⟨ad324, e324, hx324_0, hx324_1, hx324_2, hx324_3, hx324_4⟩ := at_T26 HR0_0.out x4_1 p324 q324
               obtain rfl : ad297 = ad324 := (by injection e324)
               replace hx324_0 := (HB.out.cell (World.block_lt_of_cell? w _ hx324_0)).trans hx324_0
               replace hx324_1 := (HB.out.cell (World.block_lt_of_cell? w _ hx324_1)).trans hx324_1
               replace hx324_2 := (HB.out.cell (World.block_lt_of_cell? w _ hx324_2)).trans hx324_2
               replace hx324_3 := (HB.out.cell (World.block_lt_of_cell? w _ hx324_3)).trans hx324_3
               replace hx324_4 := (HB.out.cell (World.block_lt_of_cell? w _ hx324_4)).trans hx324_4
               replace p324 := eq_true p324
               replace q324 := eq_true q324
               go_wp2_with (first | ((with_reducible refine gate_callee (f := 13) rfl ?_); refine goesL_ (some 112) rfl rfl Try.func13 (by kernel_rfl) rfl #[.agg #[.int .i64 ((rd_T26 l0_0 x4_1).f0), .int .i64 ((rd_T26 l0_0 x4_1).f1), .int .i64 ((rd_T26 l0_0 x4_1).f2), .int .i64 ((rd_T26 l0_0 x4_1).f3), .string ((rd_T26 l0_0 x4_1).f4)]] rfl (by (try simp only [List.map_toArray, List.map_cons, List.map_nil]); first | done | rfl | (simp only [List.length_drop, List.length_take]; rfl)) ?_; (with_reducible refine (ent_Check.calls kj21 ((rd_T26 l0_0 x4_1).f0) ((rd_T26 l0_0 x4_1).f1) ((rd_T26 l0_0 x4_1).f2) ((rd_T26 l0_0 x4_1).f3) ((rd_T26 l0_0 x4_1).f4) t325 _ A66.out).mono ?_); rintro e w77 ⟨rfl, hb⟩; refine ⟨_, rfl, ?_⟩; have n0_ := Aside0.mk (Kd.R_below (by (with_reducible repeat (first | apply Kd.R_alloc | apply Kd.R_drewN | apply Kd.R_drew)); exact HO_3.out) hb); have n1_ := Aside0.mk (blk_below (g := gb292) (o := .cells #[.slice (some ad297) l0_0.length c0_0, .string a0_1] 24 (0, 0)) (by (with_reducible repeat (first | refine blk_drewN ?_ _ | refine blk_drew ?_ | refine blk_alloc ?_ _)); exact BK292.out) hb); have n2_ := Aside0.mk (below_step (by repeat (first | (with_reducible first | exact HB.out | apply below_alloc | apply pw_below_drewN | apply below_drew1 | refine below_set ?_ GE292.out) | exact HB.out)) hb); clear HO_3; clear BK292; clear HB; have HO_3 := n0_; have BK292 := n1_; have HB := n2_; clear n0_ n1_ n2_; (try clear hb); (try clear hb2); (try clear hk); (try clear hi)) | ((with_reducible refine gate_callee (f := 12) rfl ?_); refine goesL_ (some 113) rfl rfl Try.func12 (by kernel_rfl) rfl #[.int .i64 t325] rfl (by (try simp only [List.map_toArray, List.map_cons, List.map_nil]); first | done | rfl | (simp only [List.length_drop, List.length_take]; rfl)) ?_; (with_reducible refine (thresherlaw16_num.calls t325 t326 _ A67.out).mono ?_); rintro e w' ⟨rfl, ⟨nd, rfl⟩⟩; refine ⟨_, rfl, ?_⟩) | (go_at_call 12; (with_reducible refine (thresherlaw16_num.calls t299 t327 _ A69.out).mono ?_); rintro e w' ⟨rfl, ⟨nd, rfl⟩⟩))
               go_ret
               exact ⟨by first | rfl | (simp [errW_none, errW_some] <;> rfl) | (simp [*, errW_none, errW_some] <;> rfl), by repeat (first | (with_reducible first | exact HB.out | apply below_alloc | apply pw_below_drewN | apply below_drew1 | refine below_set ?_ GE292.out) | exact HB.out)⟩
             ·
              rw [if_neg c68] at H
              have c68b0 : (t326 == x7_21) = false := beq_eq_false_iff_ne.mpr c68
              have c68b1 : (t326 != x7_21) = true := bne_iff_ne.mpr c68
              obtain rfl := Option.some.inj H
              obtain ⟨hcz78_0, hcz78_1⟩ := cells2 BK292.out
              have hfz78_0 := fun i_ => blk_frozen BK292.out i_
              have p324 : 0 ≤ (x4_1 : Int) := of_decide_eq_true (by first | (with_reducible assumption) | assumption)
              have q324 : x4_1 < (l0_0.length : Int) := of_decide_eq_true (by first | (with_reducible assumption) | assumption)
              obtain ⟨ad324, e324, hx324_0, hx324_1, hx324_2, hx324_3, hx324_4⟩ := at_T26 HR0_0.out x4_1 p324 q324
              obtain rfl : ad297 = ad324 := (by injection e324)
              replace hx324_0 := (HB.out.cell (World.block_lt_of_cell? w _ hx324_0)).trans hx324_0
              replace hx324_1 := (HB.out.cell (World.block_lt_of_cell? w _ hx324_1)).trans hx324_1
              replace hx324_2 := (HB.out.cell (World.block_lt_of_cell? w _ hx324_2)).trans hx324_2
              replace hx324_3 := (HB.out.cell (World.block_lt_of_cell? w _ hx324_3)).trans hx324_3
              replace hx324_4 := (HB.out.cell (World.block_lt_of_cell? w _ hx324_4)).trans hx324_4
              replace p324 := eq_true p324
              replace q324 := eq_true q324
              go_wp2_with (first | ((with_reducible refine gate_callee (f := 13) rfl ?_); refine goesL_ (some 112) rfl rfl Try.func13 (by kernel_rfl) rfl #[.agg #[.int .i64 ((rd_T26 l0_0 x4_1).f0), .int .i64 ((rd_T26 l0_0 x4_1).f1), .int .i64 ((rd_T26 l0_0 x4_1).f2), .int .i64 ((rd_T26 l0_0 x4_1).f3), .string ((rd_T26 l0_0 x4_1).f4)]] rfl (by (try simp only [List.map_toArray, List.map_cons, List.map_nil]); first | done | rfl | (simp only [List.length_drop, List.length_take]; rfl)) ?_; (with_reducible refine (ent_Check.calls kj21 ((rd_T26 l0_0 x4_1).f0) ((rd_T26 l0_0 x4_1).f1) ((rd_T26 l0_0 x4_1).f2) ((rd_T26 l0_0 x4_1).f3) ((rd_T26 l0_0 x4_1).f4) t325 _ A66.out).mono ?_); rintro e w79 ⟨rfl, hb⟩; refine ⟨_, rfl, ?_⟩; have n0_ := Aside0.mk (Kd.R_below (by (with_reducible repeat (first | apply Kd.R_alloc | apply Kd.R_drewN | apply Kd.R_drew)); exact HO_3.out) hb); have n1_ := Aside0.mk (blk_below (g := gb292) (o := .cells #[.slice (some ad297) l0_0.length c0_0, .string a0_1] 24 (0, 0)) (by (with_reducible repeat (first | refine blk_drewN ?_ _ | refine blk_drew ?_ | refine blk_alloc ?_ _)); exact BK292.out) hb); have n2_ := Aside0.mk (below_step (by repeat (first | (with_reducible first | exact HB.out | apply below_alloc | apply pw_below_drewN | apply below_drew1 | refine below_set ?_ GE292.out) | exact HB.out)) hb); clear HO_3; clear BK292; clear HB; have HO_3 := n0_; have BK292 := n1_; have HB := n2_; clear n0_ n1_ n2_; (try clear hb); (try clear hb2); (try clear hk); (try clear hi)) | ((with_reducible refine gate_callee (f := 12) rfl ?_); refine goesL_ (some 113) rfl rfl Try.func12 (by kernel_rfl) rfl #[.int .i64 t325] rfl (by (try simp only [List.map_toArray, List.map_cons, List.map_nil]); first | done | rfl | (simp only [List.length_drop, List.length_take]; rfl)) ?_; (with_reducible refine (thresherlaw16_num.calls t325 t326 _ A67.out).mono ?_); rintro e w' ⟨rfl, ⟨nd, rfl⟩⟩; refine ⟨_, rfl, ?_⟩))
              go_ret
              exact ⟨by first | rfl | (simp [errW_none, errW_some] <;> rfl) | (simp [*, errW_none, errW_some] <;> rfl), by repeat (first | (with_reducible first | exact HB.out | apply below_alloc | apply pw_below_drewN | apply below_drew1 | refine below_set ?_ GE292.out) | exact HB.out)⟩
            ·
             rw [if_neg c65] at H
             exact absurd H (by simp)
           ·
            rw [if_neg c64] at H
            exact absurd H (by simp)
        ·
         rw [if_neg c19] at H
         exact absurd H (by simp)
       ·
        rw [if_neg c18] at H
        exact absurd H (by simp)
      ·
       replace c17 := Bool.eq_false_iff.mpr c17
       subst c17
       have H1 : (thresherlaw16_EntBytes.l2 kj12 x3_1 0) = some r := by rw [if_neg (show ¬ (false = true) by decide)] at H; exact H
       clear H
       have H := H1
       clear H1
       have H' := Aside0.mk H
       clear H
       go_wp2
       go_loopg [13] kj12 (fun kq v13 w' => ∃ (x13_3 : Int), v13 = .int .i64 x13_3 ∧ Aside0 (thresherlaw16_EntBytes.l2 kq x3_1 x13_3 = some r) ∧ Aside0 (kq ≤ kj12) ∧ Aside0 (Kd.R Kd.string 9 w' w.heap.size (fun _ => True) u3 x3_1) ∧ Aside0 (w'.heap[gb292]? = some (.cells #[(.slice A0_0 l0_0.length c0_0), .string a0_1] 24 (0, 0))) ∧ Aside0 (Below w.heap.size w w'))
       case atStart => exact ⟨(0), (by first | rfl | (simp; done) | (simp [*]; done)), H', ⟨Nat.le_refl _⟩, ⟨by (with_reducible repeat (first | apply Kd.R_alloc | apply Kd.R_drewN | apply Kd.R_drew)); exact HO_3.out⟩, ⟨by (with_reducible repeat (first | refine blk_drewN ?_ _ | refine blk_drew ?_ | refine blk_alloc ?_ _)); exact BK292.out⟩, ⟨by repeat (first | (with_reducible first | exact HB.out | apply below_alloc | apply pw_below_drewN | apply below_drew1 | refine below_set ?_ GE292.out) | exact HB.out)⟩⟩
       case round =>
        clear H'
        (try clear c1); (try clear c2); (try clear p2); (try clear q2); (try clear hx2); (try clear c3); (try clear p3); (try clear q3); (try clear hx3); (try clear c4); (try clear p4); (try clear q4); (try clear hx4); (try clear hf4); (try clear c5); (try clear hcv5); (try clear c6); (try clear p6); (try clear c7); (try clear c12); (try clear c13); (try clear c14); (try clear c14b0); (try clear c17); (try clear c18); (try clear c18b0); (try clear c19); (try clear c19b0); (try clear c26); (try clear c27); (try clear c28); (try clear c29); (try clear p29); (try clear q29); (try clear hx29); (try clear c30); (try clear p30); (try clear q30); (try clear hx30); (try clear p31); (try clear q31); (try clear hx31); (try clear p32); (try clear q32); (try clear hx32); (try clear c35); (try clear c38); (try clear c38b0); (try clear c38b1); (try clear c43); (try clear c44); (try clear c44b0); (try clear c45); (try clear c45b0); (try clear c46); (try clear c46b0); (try clear c46b1); (try clear c46b2); (try clear c47); (try clear c47b0); (try clear c48); (try clear c48b0); (try clear p49); (try clear q49); (try clear hx49); (try clear hf49); (try clear c50); (try clear c50b0); (try clear c51); (try clear c51b0); (try clear c51b1); (try clear c52); (try clear hcv59); (try clear c64); (try clear c64b0); (try clear p64); (try clear c65); (try clear c65b0); (try clear c68); (try clear c68b0); (try clear c68b1); (try clear c70); (try clear c70b0); (try clear c70b1); (try clear c71); (try clear c71b0); (try clear c71b1); (try clear hcz10_0); (try clear hcz10_1); (try clear hcz15_0); (try clear hcz15_1); (try clear hcz16_0); (try clear hcz16_1); (try clear hcz23_0); (try clear hcz23_1); (try clear hcz25_0); (try clear hcz25_1); (try clear hcz31_0); (try clear hcz31_1); (try clear hcz36_0); (try clear hcz36_1); (try clear hcz36_2); (try clear hcz36_3); (try clear hcz36_4); (try clear hcz5_0); (try clear hcz5_1); (try clear hcz72_0); (try clear hcz72_1); (try clear hcz74_0); (try clear hcz74_1); (try clear hcz76_0); (try clear hcz76_1); (try clear hcz78_0); (try clear hcz78_1); (try clear hcz8_0); (try clear hcz8_1); (try clear hfz10_0); (try clear hfz15_0); (try clear hfz16_0); (try clear hfz23_0); (try clear hfz25_0); (try clear hfz31_0); (try clear hfz36_0); (try clear hfz5_0); (try clear hfz72_0); (try clear hfz74_0); (try clear hfz76_0); (try clear hfz78_0); (try clear hfz8_0); (try clear hx297_0); (try clear hx297_1); (try clear hx297_2); (try clear hx297_3); (try clear hx297_4); (try clear hx300_0); (try clear hx300_1); (try clear hx300_2); (try clear hx300_3); (try clear hx300_4); (try clear hx302_0); (try clear hx302_1); (try clear hx302_2); (try clear hx302_3); (try clear hx302_4); (try clear hx312_0); (try clear hx312_1); (try clear hx312_2); (try clear hx312_3); (try clear hx312_4); (try clear hx316_0); (try clear hx324_0); (try clear hx324_1); (try clear hx324_2); (try clear hx324_3); (try clear hx324_4); (try clear hx49_0); (try clear p2); (try clear p29); (try clear p297); (try clear p3); (try clear p30); (try clear p300); (try clear p302); (try clear p31); (try clear p312); (try clear p316); (try clear p324); (try clear p4); (try clear p49); (try clear p6); (try clear q2); (try clear q29); (try clear q297); (try clear q3); (try clear q30); (try clear q300); (try clear q302); (try clear q31); (try clear q312); (try clear q316); (try clear q324); (try clear q4); (try clear q49)
        obtain ⟨x13_3, rfl, HA, HK3, HO_3, BK292, HB⟩ := hrel
        cases gk with
        | zero => exact absurd HA.out (by simp [thresherlaw16_EntBytes.l2])
        | succ k3 =>
         have H := HA.out
         clear HA
         simp only [thresherlaw16_EntBytes.l2] at H
         by_cases c80 : x13_3 < (x3_1.length : Int)
         ·
          rw [if_pos c80] at H
          have c80b0 : decide (x13_3 < (x3_1.length : Int)) = true := decide_eq_true c80
          clear c80
          by_cases c81 : 0 ≤ x13_3
          ·
           rw [if_pos c81] at H
           have c81b0 : decide (0 ≤ x13_3) = true := decide_eq_true c81
           clear c81
           replace H := Option.bind_eq_some_iff.mp H
           obtain ⟨⟨t330, t331, t332, t333, t334, t335⟩, A820, H⟩ := H
           replace H : ((thresherref15_TakeEnt.f k3 (rdOf ByteArray.empty x3_1 x13_3)).bind fun bt338 => (if (!(t330 == bt338.1) || (!(t331 == bt338.2.1) || (!(t332 == bt338.2.2.1) || (!(t333 == bt338.2.2.2.1) || (!(t334.toList == bt338.2.2.2.2.1.toList)))))) = true then (some false) else ((thresherlaw16_num.f t335).bind fun t345 => (if t345 = bt338.2.2.2.2.2 then (thresherlaw16_EntBytes.l2 k3 x3_1 (wrap64 (x13_3 + 1))) else (some false))))) = some r := H
           have A82 := Aside0.mk A820
           clear A820
           replace H := Option.bind_eq_some_iff.mp H
           obtain ⟨⟨t338, t339, t340, t341, t342, t343⟩, A830, H⟩ := H
           replace H : (if (!(t330 == t338) || (!(t331 == t339) || (!(t332 == t340) || (!(t333 == t341) || (!(t334.toList == t342.toList)))))) = true then (some false) else ((thresherlaw16_num.f t335).bind fun t345 => (if t345 = t343 then (thresherlaw16_EntBytes.l2 k3 x3_1 (wrap64 (x13_3 + 1))) else (some false)))) = some r := H
           have A83 := Aside0.mk A830
           clear A830
           by_cases c84 : (!(t330 == t338) || (!(t331 == t339) || (!(t332 == t340) || (!(t333 == t341) || (!(t334.toList == t342.toList)))))) = true
           ·
            rw [if_pos c84] at H
            have c84b0 : (!(t330 == t338) || (!(t331 == t339) || (!(t332 == t340) || (!(t333 == t341) || (!(t334.toList == t342.toList)))))) = true := c84
            clear c84
            obtain rfl := Option.some.inj H
            obtain ⟨Ao85, co85, eo85⟩ := Kd.R_slice HO_3.out
            subst eo85
            have p329 : 0 ≤ (x13_3 : Int) := of_decide_eq_true (by first | (with_reducible assumption) | assumption)
            have q329 : x13_3 < (x3_1.length : Int) := of_decide_eq_true (by first | (with_reducible assumption) | assumption)
            obtain ⟨ad329, e329, hx329_0⟩ := Kd.at_string (Kd.R_reads' HO_3.out).2.2 x13_3 p329 q329
            cases e329
            replace p329 := eq_true p329
            replace q329 := eq_true q329
            go_wp2_with (first | ((with_reducible refine gate_callee (f := 30) rfl ?_); refine goesL_ (some 138) rfl rfl Try.func30 (by kernel_rfl) rfl #[.string (rdOf ByteArray.empty x3_1 x13_3)] rfl (by (try simp only [List.map_toArray, List.map_cons, List.map_nil]); first | done | rfl | (simp only [List.length_drop, List.length_take]; rfl)) ?_; (with_reducible refine (ent_Take.calls k3 (rdOf ByteArray.empty x3_1 x13_3) t330 t331 t332 t333 t334 t335 _ A82.out).mono ?_); rintro e w86 ⟨rfl, hb⟩; refine ⟨_, rfl, ?_⟩; have n0_ := Aside0.mk (Kd.R_below (by (with_reducible repeat (first | apply Kd.R_alloc | apply Kd.R_drewN | apply Kd.R_drew)); exact HO_3.out) hb); have n1_ := Aside0.mk (blk_below (g := gb292) (o := .cells #[.slice A0_0 l0_0.length c0_0, .string a0_1] 24 (0, 0)) (by (with_reducible repeat (first | refine blk_drewN ?_ _ | refine blk_drew ?_ | refine blk_alloc ?_ _)); exact BK292.out) hb); have n2_ := Aside0.mk (below_step (by repeat (first | (with_reducible first | exact HB.out | apply below_alloc | apply pw_below_drewN | apply below_drew1 | refine below_set ?_ GE292.out) | exact HB.out)) hb); clear HO_3; clear BK292; clear HB; have HO_3 := n0_; have BK292 := n1_; have HB := n2_; clear n0_ n1_ n2_; (try clear hb); (try clear hb2); (try clear hk); (try clear hi)) | ((with_reducible refine gate_dst (N := 14) rfl ?_); refine box_event ?hg (N := 14) ?hd (cs := #[.int .i64 0, .int .i64 0, .int .i64 0, .int .i64 0, .string (⟨#[]⟩ : ByteArray)]) (t := 26) ?hr ?_; (case hd => rfl); (case hg => rfl); (case hr => first | (go_simp; done) | (go_simp; rfl)); intro gb336 hg w87 hbox hb; have n0_ := Aside0.mk (Kd.R_below (by (with_reducible repeat (first | apply Kd.R_alloc | apply Kd.R_drewN | apply Kd.R_drew)); exact HO_3.out) hb); have n1_ := Aside0.mk (blk_below (g := gb292) (o := .cells #[.slice A0_0 l0_0.length c0_0, .string a0_1] 24 (0, 0)) (by (with_reducible repeat (first | refine blk_drewN ?_ _ | refine blk_drew ?_ | refine blk_alloc ?_ _)); exact BK292.out) hb); have n2_ := Aside0.mk (below_step (by repeat (first | (with_reducible first | exact HB.out | apply below_alloc | apply pw_below_drewN | apply below_drew1 | refine below_set ?_ GE292.out) | exact HB.out)) hb); have n3_ := Aside0.mk (hbox); have n4_ := Aside0.mk ((by rw [hg]; exact (below_size (by repeat (first | (with_reducible first | exact HB.out | apply below_alloc | apply pw_below_drewN | apply below_drew1 | refine below_set ?_ GE292.out) | exact HB.out))) : w.heap.size ≤ gb336)); have n5_ := Aside0.mk ((by rw [hg]; exact (below_size (by repeat (first | (with_reducible first | exact HB.out | apply below_alloc | apply pw_below_drewN | apply below_drew1 | refine below_set ?_ GE292.out) | exact HB.out))) : w.heap.size ≤ gb336)); have n6_ := Aside0.mk ((by rw [hg]; exact Nat.ne_of_lt (blk_lt (g := gb292) (o := .cells #[.slice A0_0 l0_0.length c0_0, .string a0_1] 24 (0, 0)) (by (with_reducible repeat (first | refine blk_drewN ?_ _ | refine blk_drew ?_ | refine blk_alloc ?_ _)); exact BK292.out)) : gb292 ≠ gb336)); have n7_ := Aside0.mk ((by rw [hg]; exact Nat.ne_of_gt (blk_lt (g := gb292) (o := .cells #[.slice A0_0 l0_0.length c0_0, .string a0_1] 24 (0, 0)) (by (with_reducible repeat (first | refine blk_drewN ?_ _ | refine blk_drew ?_ | refine blk_alloc ?_ _)); exact BK292.out)) : gb336 ≠ gb292)); clear HO_3; clear BK292; clear HB; have HO_3 := n0_; have BK292 := n1_; have HB := n2_; have BK336 := n3_; have GW336 := n4_; have GE336 := n5_; have NB292_336 := n6_; have NB336_292 := n7_; clear n0_ n1_ n2_ n3_ n4_ n5_ n6_ n7_; clear hb hbox hg; have hnb88 := NB336_292.out; have hnc88 := NB292_336.out; obtain ⟨hcz89_0, hcz89_1, hcz89_2, hcz89_3, hcz89_4⟩ := cells5 BK336.out; have hfz89_0 := fun i_ => blk_frozen BK336.out i_; have p337 : 0 ≤ (x13_3 : Int) := of_decide_eq_true (by first | (with_reducible assumption) | assumption); have q337 : x13_3 < (x3_1.length : Int) := of_decide_eq_true (by first | (with_reducible assumption) | assumption); obtain ⟨ad337, e337, hx337_0⟩ := Kd.at_string (Kd.R_reads' HO_3.out).2.2 x13_3 p337 q337; obtain rfl : ad329 = ad337 := (by injection e337); have hn337_0 : ad329.block ≠ gb336 := Kd.own_blk (Kd.R_ne HO_3.out BK336.out (by decide)); have hn337_1 : ad329.block ≠ gb336 := Kd.own_blk (Kd.R_ne HO_3.out BK336.out (by decide)); have hn337_2 : ad329.block ≠ gb336 := Kd.own_blk (Kd.R_ne HO_3.out BK336.out (by decide)); have hn337_3 : ad329.block ≠ gb336 := Kd.own_blk (Kd.R_ne HO_3.out BK336.out (by decide)); have hn337_4 : ad329.block ≠ gb336 := Kd.own_blk (Kd.R_ne HO_3.out BK336.out (by decide)); replace hx337_0 := (cell_far (p := ⟨gb336, 0, none⟩) (by first | (rw [add_block]; exact hn337_0) | (show (Addr.add _ _).block ≠ _; rw [add_block]; exact hn337_0) | exact hn337_0) (.int .i64 t330)).trans hx337_0; replace hx337_0 := (cell_far (p := ⟨gb336, 1, none⟩) (by first | (rw [add_block]; exact hn337_1) | (show (Addr.add _ _).block ≠ _; rw [add_block]; exact hn337_1) | exact hn337_1) (.int .i64 t331)).trans hx337_0; replace hx337_0 := (cell_far (p := ⟨gb336, 2, none⟩) (by first | (rw [add_block]; exact hn337_2) | (show (Addr.add _ _).block ≠ _; rw [add_block]; exact hn337_2) | exact hn337_2) (.int .i64 t332)).trans hx337_0; replace hx337_0 := (cell_far (p := ⟨gb336, 3, none⟩) (by first | (rw [add_block]; exact hn337_3) | (show (Addr.add _ _).block ≠ _; rw [add_block]; exact hn337_3) | exact hn337_3) (.int .i64 t333)).trans hx337_0; replace hx337_0 := (cell_far (p := ⟨gb336, 4, none⟩) (by first | (rw [add_block]; exact hn337_4) | (show (Addr.add _ _).block ≠ _; rw [add_block]; exact hn337_4) | exact hn337_4) (.string t334)).trans hx337_0; clear hn337_0; clear hn337_1; clear hn337_2; clear hn337_3; clear hn337_4; replace p337 := eq_true p337; replace q337 := eq_true q337) | ((with_reducible refine gate_callee (f := 31) rfl ?_); refine goesL_ (some 146) rfl rfl Try.func31 (by kernel_rfl) rfl #[.string (rdOf ByteArray.empty x3_1 x13_3)] rfl (by (try simp only [List.map_toArray, List.map_cons, List.map_nil]); first | done | rfl | (simp only [List.length_drop, List.length_take]; rfl)) ?_; (with_reducible refine (thresherref15_TakeEnt.calls k3 (rdOf ByteArray.empty x3_1 x13_3) t338 t339 t340 t341 t342 t343 _ A83.out).mono ?_); rintro e w90 ⟨rfl, hb⟩; refine ⟨_, rfl, ?_⟩; have n0_ := Aside0.mk (Kd.R_below (by (with_reducible repeat (first | apply Kd.R_alloc | apply Kd.R_drewN | apply Kd.R_drew)); exact (Kd.R_mono (Kd.R_far (p := ⟨gb336, 4, none⟩) (Kd.R_far (p := ⟨gb336, 3, none⟩) (Kd.R_far (p := ⟨gb336, 2, none⟩) (Kd.R_far (p := ⟨gb336, 1, none⟩) (Kd.R_far (p := ⟨gb336, 0, none⟩) (Kd.R_types HO_3.out BK336.out (by decide)) (fun _ hk => hk.2) (.int .i64 t330)) (fun _ hk => hk.2) (.int .i64 t331)) (fun _ hk => hk.2) (.int .i64 t332)) (fun _ hk => hk.2) (.int .i64 t333)) (fun _ hk => hk.2) (.string t334)) (fun _ h_ => h_.1))) hb); have n1_ := Aside0.mk (blk_below (g := gb292) (o := .cells #[.slice A0_0 l0_0.length c0_0, .string a0_1] 24 (0, 0)) (by (with_reducible repeat (first | refine blk_drewN ?_ _ | refine blk_drew ?_ | refine blk_alloc ?_ _ | refine blk_far ?_ NB292_336.out _)); exact BK292.out) hb); have n2_ := Aside0.mk (blk_below (g := gb336) (o := .cells #[.int .i64 t330, .int .i64 t331, .int .i64 t332, .int .i64 t333, .string t334] 26 (0, 0)) (by (with_reducible repeat (first | refine blk_drewN ?_ _ | refine blk_drew ?_ | refine blk_alloc ?_ _)); refine blk_put (cs := #[.int .i64 t330, .int .i64 t331, .int .i64 t332, .int .i64 t333, .string (⟨#[]⟩ : ByteArray)]) ?_ 4 _ rfl; (with_reducible repeat (first | refine blk_drewN ?_ _ | refine blk_drew ?_ | refine blk_alloc ?_ _)); refine blk_put (cs := #[.int .i64 t330, .int .i64 t331, .int .i64 t332, .int .i64 0, .string (⟨#[]⟩ : ByteArray)]) ?_ 3 _ rfl; (with_reducible repeat (first | refine blk_drewN ?_ _ | refine blk_drew ?_ | refine blk_alloc ?_ _)); refine blk_put (cs := #[.int .i64 t330, .int .i64 t331, .int .i64 0, .int .i64 0, .string (⟨#[]⟩ : ByteArray)]) ?_ 2 _ rfl; (with_reducible repeat (first | refine blk_drewN ?_ _ | refine blk_drew ?_ | refine blk_alloc ?_ _)); refine blk_put (cs := #[.int .i64 t330, .int .i64 0, .int .i64 0, .int .i64 0, .string (⟨#[]⟩ : ByteArray)]) ?_ 1 _ rfl; (with_reducible repeat (first | refine blk_drewN ?_ _ | refine blk_drew ?_ | refine blk_alloc ?_ _)); refine blk_put (cs := #[.int .i64 0, .int .i64 0, .int .i64 0, .int .i64 0, .string (⟨#[]⟩ : ByteArray)]) ?_ 0 _ rfl; (with_reducible repeat (first | refine blk_drewN ?_ _ | refine blk_drew ?_ | refine blk_alloc ?_ _)); exact BK336.out) hb); have n3_ := Aside0.mk (below_step (by repeat (first | (with_reducible first | exact HB.out | apply below_alloc | apply pw_below_drewN | apply below_drew1 | refine below_set ?_ GE292.out | refine below_set ?_ GE336.out) | exact HB.out)) hb); clear HO_3; clear BK292; clear BK336; clear HB; have HO_3 := n0_; have BK292 := n1_; have BK336 := n2_; have HB := n3_; clear n0_ n1_ n2_ n3_; (try clear hb); (try clear hb2); (try clear hk); (try clear hi)) | ((with_reducible refine gate_dst (N := 16) rfl ?_); refine box_event ?hg (N := 16) ?hd (cs := #[.int .i64 0, .int .i64 0, .int .i64 0, .int .i64 0, .string (⟨#[]⟩ : ByteArray)]) (t := 26) ?hr ?_; (case hd => rfl); (case hg => rfl); (case hr => first | (go_simp; done) | (go_simp; rfl)); intro gb344 hg w91 hbox hb; have n0_ := Aside0.mk (Kd.R_below (by (with_reducible repeat (first | apply Kd.R_alloc | apply Kd.R_drewN | apply Kd.R_drew)); exact HO_3.out) hb); have n1_ := Aside0.mk (blk_below (g := gb292) (o := .cells #[.slice A0_0 l0_0.length c0_0, .string a0_1] 24 (0, 0)) (by (with_reducible repeat (first | refine blk_drewN ?_ _ | refine blk_drew ?_ | refine blk_alloc ?_ _)); exact BK292.out) hb); have n2_ := Aside0.mk (blk_below (g := gb336) (o := .cells #[.int .i64 t330, .int .i64 t331, .int .i64 t332, .int .i64 t333, .string t334] 26 (0, 0)) (by (with_reducible repeat (first | refine blk_drewN ?_ _ | refine blk_drew ?_ | refine blk_alloc ?_ _)); exact BK336.out) hb); have n3_ := Aside0.mk (below_step (by repeat (first | (with_reducible first | exact HB.out | apply below_alloc | apply pw_below_drewN | apply below_drew1 | refine below_set ?_ GE292.out | refine below_set ?_ GE336.out) | exact HB.out)) hb); have n4_ := Aside0.mk (hbox); have n5_ := Aside0.mk ((by rw [hg]; exact (below_size (by repeat (first | (with_reducible first | exact HB.out | apply below_alloc | apply pw_below_drewN | apply below_drew1 | refine below_set ?_ GE292.out | refine below_set ?_ GE336.out) | exact HB.out))) : w.heap.size ≤ gb344)); have n6_ := Aside0.mk ((by rw [hg]; exact (below_size (by repeat (first | (with_reducible first | exact HB.out | apply below_alloc | apply pw_below_drewN | apply below_drew1 | refine below_set ?_ GE292.out | refine below_set ?_ GE336.out) | exact HB.out))) : w.heap.size ≤ gb344)); have n7_ := Aside0.mk ((by rw [hg]; exact Nat.ne_of_lt (blk_lt (g := gb292) (o := .cells #[.slice A0_0 l0_0.length c0_0, .string a0_1] 24 (0, 0)) (by (with_reducible repeat (first | refine blk_drewN ?_ _ | refine blk_drew ?_ | refine blk_alloc ?_ _)); exact BK292.out)) : gb292 ≠ gb344)); have n8_ := Aside0.mk ((by rw [hg]; exact Nat.ne_of_gt (blk_lt (g := gb292) (o := .cells #[.slice A0_0 l0_0.length c0_0, .string a0_1] 24 (0, 0)) (by (with_reducible repeat (first | refine blk_drewN ?_ _ | refine blk_drew ?_ | refine blk_alloc ?_ _)); exact BK292.out)) : gb344 ≠ gb292)); have n9_ := Aside0.mk ((by rw [hg]; exact Nat.ne_of_lt (blk_lt (g := gb336) (o := .cells #[.int .i64 t330, .int .i64 t331, .int .i64 t332, .int .i64 t333, .string t334] 26 (0, 0)) (by (with_reducible repeat (first | refine blk_drewN ?_ _ | refine blk_drew ?_ | refine blk_alloc ?_ _)); exact BK336.out)) : gb336 ≠ gb344)); have n10_ := Aside0.mk ((by rw [hg]; exact Nat.ne_of_gt (blk_lt (g := gb336) (o := .cells #[.int .i64 t330, .int .i64 t331, .int .i64 t332, .int .i64 t333, .string t334] 26 (0, 0)) (by (with_reducible repeat (first | refine blk_drewN ?_ _ | refine blk_drew ?_ | refine blk_alloc ?_ _)); exact BK336.out)) : gb344 ≠ gb336)); clear HO_3; clear BK292; clear BK336; clear HB; have HO_3 := n0_; have BK292 := n1_; have BK336 := n2_; have HB := n3_; have BK344 := n4_; have GW344 := n5_; have GE344 := n6_; have NB292_344 := n7_; have NB344_292 := n8_; have NB336_344 := n9_; have NB344_336 := n10_; clear n0_ n1_ n2_ n3_ n4_ n5_ n6_ n7_ n8_ n9_ n10_; clear hb hbox hg; have hnb92 := NB344_292.out; have hnc92 := NB292_344.out; have hnb93 := NB344_336.out; have hnc93 := NB336_344.out; obtain ⟨hcz94_0, hcz94_1, hcz94_2, hcz94_3, hcz94_4⟩ := cells5 BK344.out; have hfz94_0 := fun i_ => blk_frozen BK344.out i_; obtain ⟨hcz95_0, hcz95_1, hcz95_2, hcz95_3, hcz95_4⟩ := cells5 BK336.out; have hfz95_0 := fun i_ => blk_frozen BK336.out i_))
            go_ret
            exact ⟨by first | rfl | (simp [errW_none, errW_some] <;> rfl) | (simp [*, errW_none, errW_some] <;> rfl), by repeat (first | (with_reducible first | exact HB.out | apply below_alloc | apply pw_below_drewN | apply below_drew1 | refine below_set ?_ GE292.out | refine below_set ?_ GE336.out | refine below_set ?_ GE344.out) | exact HB.out)⟩
           ·
            rw [if_neg c84] at H
            have c84b0 : (!(t330 == t338) || (!(t331 == t339) || (!(t332 == t340) || (!(t333 == t341) || (!(t334.toList == t342.toList)))))) = false := by simpa using c84
            clear c84
            replace H := Option.bind_eq_some_iff.mp H
            obtain ⟨t345, A960, H⟩ := H
            replace H : (if t345 = t343 then (thresherlaw16_EntBytes.l2 k3 x3_1 (wrap64 (x13_3 + 1))) else (some false)) = some r := H
            have A96 := Aside0.mk A960
            clear A960
            by_cases c97 : t345 = t343
            ·
             rw [if_pos c97] at H
             have c97b0 : (t345 == t343) = true := beq_iff_eq.mpr c97
             have c97b1 : (t345 != t343) = false := bne_eq_false_iff_eq.mpr c97
             clear c97
             have H' := Aside0.mk H
             clear H
             obtain ⟨Ao98, co98, eo98⟩ := Kd.R_slice HO_3.out
             subst eo98
             have p329 : 0 ≤ (x13_3 : Int) := of_decide_eq_true (by first | (with_reducible assumption) | assumption)
             have q329 : x13_3 < (x3_1.length : Int) := of_decide_eq_true (by first | (with_reducible assumption) | assumption)
             obtain ⟨ad329, e329, hx329_0⟩ := Kd.at_string (Kd.R_reads' HO_3.out).2.2 x13_3 p329 q329
             cases e329
             replace p329 := eq_true p329
             replace q329 := eq_true q329
             go_wp2_with (first | ((with_reducible refine gate_callee (f := 30) rfl ?_); refine goesL_ (some 138) rfl rfl Try.func30 (by kernel_rfl) rfl #[.string (rdOf ByteArray.empty x3_1 x13_3)] rfl (by (try simp only [List.map_toArray, List.map_cons, List.map_nil]); first | done | rfl | (simp only [List.length_drop, List.length_take]; rfl)) ?_; (with_reducible refine (ent_Take.calls k3 (rdOf ByteArray.empty x3_1 x13_3) t330 t331 t332 t333 t334 t335 _ A82.out).mono ?_); rintro e w99 ⟨rfl, hb⟩; refine ⟨_, rfl, ?_⟩; have n0_ := Aside0.mk (Kd.R_below (by (with_reducible repeat (first | apply Kd.R_alloc | apply Kd.R_drewN | apply Kd.R_drew)); exact HO_3.out) hb); have n1_ := Aside0.mk (blk_below (g := gb292) (o := .cells #[.slice A0_0 l0_0.length c0_0, .string a0_1] 24 (0, 0)) (by (with_reducible repeat (first | refine blk_drewN ?_ _ | refine blk_drew ?_ | refine blk_alloc ?_ _)); exact BK292.out) hb); have n2_ := Aside0.mk (below_step (by repeat (first | (with_reducible first | exact HB.out | apply below_alloc | apply pw_below_drewN | apply below_drew1 | refine below_set ?_ GE292.out) | exact HB.out)) hb); clear HO_3; clear BK292; clear HB; have HO_3 := n0_; have BK292 := n1_; have HB := n2_; clear n0_ n1_ n2_; (try clear hb); (try clear hb2); (try clear hk); (try clear hi)) | ((with_reducible refine gate_dst (N := 14) rfl ?_); refine box_event ?hg (N := 14) ?hd (cs := #[.int .i64 0, .int .i64 0, .int .i64 0, .int .i64 0, .string (⟨#[]⟩ : ByteArray)]) (t := 26) ?hr ?_; (case hd => rfl); (case hg => rfl); (case hr => first | (go_simp; done) | (go_simp; rfl)); intro gb336 hg w100 hbox hb; have n0_ := Aside0.mk (Kd.R_below (by (with_reducible repeat (first | apply Kd.R_alloc | apply Kd.R_drewN | apply Kd.R_drew)); exact HO_3.out) hb); have n1_ := Aside0.mk (blk_below (g := gb292) (o := .cells #[.slice A0_0 l0_0.length c0_0, .string a0_1] 24 (0, 0)) (by (with_reducible repeat (first | refine blk_drewN ?_ _ | refine blk_drew ?_ | refine blk_alloc ?_ _)); exact BK292.out) hb); have n2_ := Aside0.mk (below_step (by repeat (first | (with_reducible first | exact HB.out | apply below_alloc | apply pw_below_drewN | apply below_drew1 | refine below_set ?_ GE292.out) | exact HB.out)) hb); have n3_ := Aside0.mk (hbox); have n4_ := Aside0.mk ((by rw [hg]; exact (below_size (by repeat (first | (with_reducible first | exact HB.out | apply below_alloc | apply pw_below_drewN | apply below_drew1 | refine below_set ?_ GE292.out) | exact HB.out))) : w.heap.size ≤ gb336)); have n5_ := Aside0.mk ((by rw [hg]; exact (below_size (by repeat (first | (with_reducible first | exact HB.out | apply below_alloc | apply pw_below_drewN | apply below_drew1 | refine below_set ?_ GE292.out) | exact HB.out))) : w.heap.size ≤ gb336)); have n6_ := Aside0.mk ((by rw [hg]; exact Nat.ne_of_lt (blk_lt (g := gb292) (o := .cells #[.slice A0_0 l0_0.length c0_0, .string a0_1] 24 (0, 0)) (by (with_reducible repeat (first | refine blk_drewN ?_ _ | refine blk_drew ?_ | refine blk_alloc ?_ _)); exact BK292.out)) : gb292 ≠ gb336)); have n7_ := Aside0.mk ((by rw [hg]; exact Nat.ne_of_gt (blk_lt (g := gb292) (o := .cells #[.slice A0_0 l0_0.length c0_0, .string a0_1] 24 (0, 0)) (by (with_reducible repeat (first | refine blk_drewN ?_ _ | refine blk_drew ?_ | refine blk_alloc ?_ _)); exact BK292.out)) : gb336 ≠ gb292)); clear HO_3; clear BK292; clear HB; have HO_3 := n0_; have BK292 := n1_; have HB := n2_; have BK336 := n3_; have GW336 := n4_; have GE336 := n5_; have NB292_336 := n6_; have NB336_292 := n7_; clear n0_ n1_ n2_ n3_ n4_ n5_ n6_ n7_; clear hb hbox hg; have hnb101 := NB336_292.out; have hnc101 := NB292_336.out; obtain ⟨hcz102_0, hcz102_1, hcz102_2, hcz102_3, hcz102_4⟩ := cells5 BK336.out; have hfz102_0 := fun i_ => blk_frozen BK336.out i_; have p337 : 0 ≤ (x13_3 : Int) := of_decide_eq_true (by first | (with_reducible assumption) | assumption); have q337 : x13_3 < (x3_1.length : Int) := of_decide_eq_true (by first | (with_reducible assumption) | assumption); obtain ⟨ad337, e337, hx337_0⟩ := Kd.at_string (Kd.R_reads' HO_3.out).2.2 x13_3 p337 q337; obtain rfl : ad329 = ad337 := (by injection e337); have hn337_0 : ad329.block ≠ gb336 := Kd.own_blk (Kd.R_ne HO_3.out BK336.out (by decide)); have hn337_1 : ad329.block ≠ gb336 := Kd.own_blk (Kd.R_ne HO_3.out BK336.out (by decide)); have hn337_2 : ad329.block ≠ gb336 := Kd.own_blk (Kd.R_ne HO_3.out BK336.out (by decide)); have hn337_3 : ad329.block ≠ gb336 := Kd.own_blk (Kd.R_ne HO_3.out BK336.out (by decide)); have hn337_4 : ad329.block ≠ gb336 := Kd.own_blk (Kd.R_ne HO_3.out BK336.out (by decide)); replace hx337_0 := (cell_far (p := ⟨gb336, 0, none⟩) (by first | (rw [add_block]; exact hn337_0) | (show (Addr.add _ _).block ≠ _; rw [add_block]; exact hn337_0) | exact hn337_0) (.int .i64 t330)).trans hx337_0; replace hx337_0 := (cell_far (p := ⟨gb336, 1, none⟩) (by first | (rw [add_block]; exact hn337_1) | (show (Addr.add _ _).block ≠ _; rw [add_block]; exact hn337_1) | exact hn337_1) (.int .i64 t331)).trans hx337_0; replace hx337_0 := (cell_far (p := ⟨gb336, 2, none⟩) (by first | (rw [add_block]; exact hn337_2) | (show (Addr.add _ _).block ≠ _; rw [add_block]; exact hn337_2) | exact hn337_2) (.int .i64 t332)).trans hx337_0; replace hx337_0 := (cell_far (p := ⟨gb336, 3, none⟩) (by first | (rw [add_block]; exact hn337_3) | (show (Addr.add _ _).block ≠ _; rw [add_block]; exact hn337_3) | exact hn337_3) (.int .i64 t333)).trans hx337_0; replace hx337_0 := (cell_far (p := ⟨gb336, 4, none⟩) (by first | (rw [add_block]; exact hn337_4) | (show (Addr.add _ _).block ≠ _; rw [add_block]; exact hn337_4) | exact hn337_4) (.string t334)).trans hx337_0; clear hn337_0; clear hn337_1; clear hn337_2; clear hn337_3; clear hn337_4; replace p337 := eq_true p337; replace q337 := eq_true q337) | ((with_reducible refine gate_callee (f := 31) rfl ?_); refine goesL_ (some 146) rfl rfl Try.func31 (by kernel_rfl) rfl #[.string (rdOf ByteArray.empty x3_1 x13_3)] rfl (by (try simp only [List.map_toArray, List.map_cons, List.map_nil]); first | done | rfl | (simp only [List.length_drop, List.length_take]; rfl)) ?_; (with_reducible refine (thresherref15_TakeEnt.calls k3 (rdOf ByteArray.empty x3_1 x13_3) t338 t339 t340 t341 t342 t343 _ A83.out).mono ?_); rintro e w103 ⟨rfl, hb⟩; refine ⟨_, rfl, ?_⟩; have n0_ := Aside0.mk (Kd.R_below (by (with_reducible repeat (first | apply Kd.R_alloc | apply Kd.R_drewN | apply Kd.R_drew)); exact (Kd.R_mono (Kd.R_far (p := ⟨gb336, 4, none⟩) (Kd.R_far (p := ⟨gb336, 3, none⟩) (Kd.R_far (p := ⟨gb336, 2, none⟩) (Kd.R_far (p := ⟨gb336, 1, none⟩) (Kd.R_far (p := ⟨gb336, 0, none⟩) (Kd.R_types HO_3.out BK336.out (by decide)) (fun _ hk => hk.2) (.int .i64 t330)) (fun _ hk => hk.2) (.int .i64 t331)) (fun _ hk => hk.2) (.int .i64 t332)) (fun _ hk => hk.2) (.int .i64 t333)) (fun _ hk => hk.2) (.string t334)) (fun _ h_ => h_.1))) hb); have n1_ := Aside0.mk (blk_below (g := gb292) (o := .cells #[.slice A0_0 l0_0.length c0_0, .string a0_1] 24 (0, 0)) (by (with_reducible repeat (first | refine blk_drewN ?_ _ | refine blk_drew ?_ | refine blk_alloc ?_ _ | refine blk_far ?_ NB292_336.out _)); exact BK292.out) hb); have n2_ := Aside0.mk (blk_below (g := gb336) (o := .cells #[.int .i64 t330, .int .i64 t331, .int .i64 t332, .int .i64 t333, .string t334] 26 (0, 0)) (by (with_reducible repeat (first | refine blk_drewN ?_ _ | refine blk_drew ?_ | refine blk_alloc ?_ _)); refine blk_put (cs := #[.int .i64 t330, .int .i64 t331, .int .i64 t332, .int .i64 t333, .string (⟨#[]⟩ : ByteArray)]) ?_ 4 _ rfl; (with_reducible repeat (first | refine blk_drewN ?_ _ | refine blk_drew ?_ | refine blk_alloc ?_ _)); refine blk_put (cs := #[.int .i64 t330, .int .i64 t331, .int .i64 t332, .int .i64 0, .string (⟨#[]⟩ : ByteArray)]) ?_ 3 _ rfl; (with_reducible repeat (first | refine blk_drewN ?_ _ | refine blk_drew ?_ | refine blk_alloc ?_ _)); refine blk_put (cs := #[.int .i64 t330, .int .i64 t331, .int .i64 0, .int .i64 0, .string (⟨#[]⟩ : ByteArray)]) ?_ 2 _ rfl; (with_reducible repeat (first | refine blk_drewN ?_ _ | refine blk_drew ?_ | refine blk_alloc ?_ _)); refine blk_put (cs := #[.int .i64 t330, .int .i64 0, .int .i64 0, .int .i64 0, .string (⟨#[]⟩ : ByteArray)]) ?_ 1 _ rfl; (with_reducible repeat (first | refine blk_drewN ?_ _ | refine blk_drew ?_ | refine blk_alloc ?_ _)); refine blk_put (cs := #[.int .i64 0, .int .i64 0, .int .i64 0, .int .i64 0, .string (⟨#[]⟩ : ByteArray)]) ?_ 0 _ rfl; (with_reducible repeat (first | refine blk_drewN ?_ _ | refine blk_drew ?_ | refine blk_alloc ?_ _)); exact BK336.out) hb); have n3_ := Aside0.mk (below_step (by repeat (first | (with_reducible first | exact HB.out | apply below_alloc | apply pw_below_drewN | apply below_drew1 | refine below_set ?_ GE292.out | refine below_set ?_ GE336.out) | exact HB.out)) hb); clear HO_3; clear BK292; clear BK336; clear HB; have HO_3 := n0_; have BK292 := n1_; have BK336 := n2_; have HB := n3_; clear n0_ n1_ n2_ n3_; (try clear hb); (try clear hb2); (try clear hk); (try clear hi)) | ((with_reducible refine gate_dst (N := 16) rfl ?_); refine box_event ?hg (N := 16) ?hd (cs := #[.int .i64 0, .int .i64 0, .int .i64 0, .int .i64 0, .string (⟨#[]⟩ : ByteArray)]) (t := 26) ?hr ?_; (case hd => rfl); (case hg => rfl); (case hr => first | (go_simp; done) | (go_simp; rfl)); intro gb344 hg w104 hbox hb; have n0_ := Aside0.mk (Kd.R_below (by (with_reducible repeat (first | apply Kd.R_alloc | apply Kd.R_drewN | apply Kd.R_drew)); exact HO_3.out) hb); have n1_ := Aside0.mk (blk_below (g := gb292) (o := .cells #[.slice A0_0 l0_0.length c0_0, .string a0_1] 24 (0, 0)) (by (with_reducible repeat (first | refine blk_drewN ?_ _ | refine blk_drew ?_ | refine blk_alloc ?_ _)); exact BK292.out) hb); have n2_ := Aside0.mk (blk_below (g := gb336) (o := .cells #[.int .i64 t330, .int .i64 t331, .int .i64 t332, .int .i64 t333, .string t334] 26 (0, 0)) (by (with_reducible repeat (first | refine blk_drewN ?_ _ | refine blk_drew ?_ | refine blk_alloc ?_ _)); exact BK336.out) hb); have n3_ := Aside0.mk (below_step (by repeat (first | (with_reducible first | exact HB.out | apply below_alloc | apply pw_below_drewN | apply below_drew1 | refine below_set ?_ GE292.out | refine below_set ?_ GE336.out) | exact HB.out)) hb); have n4_ := Aside0.mk (hbox); have n5_ := Aside0.mk ((by rw [hg]; exact (below_size (by repeat (first | (with_reducible first | exact HB.out | apply below_alloc | apply pw_below_drewN | apply below_drew1 | refine below_set ?_ GE292.out | refine below_set ?_ GE336.out) | exact HB.out))) : w.heap.size ≤ gb344)); have n6_ := Aside0.mk ((by rw [hg]; exact (below_size (by repeat (first | (with_reducible first | exact HB.out | apply below_alloc | apply pw_below_drewN | apply below_drew1 | refine below_set ?_ GE292.out | refine below_set ?_ GE336.out) | exact HB.out))) : w.heap.size ≤ gb344)); have n7_ := Aside0.mk ((by rw [hg]; exact Nat.ne_of_lt (blk_lt (g := gb292) (o := .cells #[.slice A0_0 l0_0.length c0_0, .string a0_1] 24 (0, 0)) (by (with_reducible repeat (first | refine blk_drewN ?_ _ | refine blk_drew ?_ | refine blk_alloc ?_ _)); exact BK292.out)) : gb292 ≠ gb344)); have n8_ := Aside0.mk ((by rw [hg]; exact Nat.ne_of_gt (blk_lt (g := gb292) (o := .cells #[.slice A0_0 l0_0.length c0_0, .string a0_1] 24 (0, 0)) (by (with_reducible repeat (first | refine blk_drewN ?_ _ | refine blk_drew ?_ | refine blk_alloc ?_ _)); exact BK292.out)) : gb344 ≠ gb292)); have n9_ := Aside0.mk ((by rw [hg]; exact Nat.ne_of_lt (blk_lt (g := gb336) (o := .cells #[.int .i64 t330, .int .i64 t331, .int .i64 t332, .int .i64 t333, .string t334] 26 (0, 0)) (by (with_reducible repeat (first | refine blk_drewN ?_ _ | refine blk_drew ?_ | refine blk_alloc ?_ _)); exact BK336.out)) : gb336 ≠ gb344)); have n10_ := Aside0.mk ((by rw [hg]; exact Nat.ne_of_gt (blk_lt (g := gb336) (o := .cells #[.int .i64 t330, .int .i64 t331, .int .i64 t332, .int .i64 t333, .string t334] 26 (0, 0)) (by (with_reducible repeat (first | refine blk_drewN ?_ _ | refine blk_drew ?_ | refine blk_alloc ?_ _)); exact BK336.out)) : gb344 ≠ gb336)); clear HO_3; clear BK292; clear BK336; clear HB; have HO_3 := n0_; have BK292 := n1_; have BK336 := n2_; have HB := n3_; have BK344 := n4_; have GW344 := n5_; have GE344 := n6_; have NB292_344 := n7_; have NB344_292 := n8_; have NB336_344 := n9_; have NB344_336 := n10_; clear n0_ n1_ n2_ n3_ n4_ n5_ n6_ n7_ n8_ n9_ n10_; clear hb hbox hg; have hnb105 := NB344_292.out; have hnc105 := NB292_344.out; have hnb106 := NB344_336.out; have hnc106 := NB336_344.out; obtain ⟨hcz107_0, hcz107_1, hcz107_2, hcz107_3, hcz107_4⟩ := cells5 BK344.out; have hfz107_0 := fun i_ => blk_frozen BK344.out i_; obtain ⟨hcz108_0, hcz108_1, hcz108_2, hcz108_3, hcz108_4⟩ := cells5 BK336.out; have hfz108_0 := fun i_ => blk_frozen BK336.out i_) | (go_at_call 12; (with_reducible refine (thresherlaw16_num.calls t335 t345 _ A96.out).mono ?_); rintro e w' ⟨rfl, ⟨nd, rfl⟩⟩))
             go_roundg k3
             case measure => have := HK1.out; have := HJ12.out; have := HK3.out; omega
             case rel => exact ⟨(wrap64 (x13_3 + 1)), (by first | rfl | (simp; done) | (simp [*]; done)), H', ⟨by have := HK1.out; have := HJ12.out; have := HK3.out; omega⟩, ⟨by (with_reducible repeat (first | apply Kd.R_alloc | apply Kd.R_drewN | apply Kd.R_drew)); exact Kd.R_mono (Kd.R_far (p := ⟨gb344, 4, none⟩) (Kd.R_far (p := ⟨gb344, 3, none⟩) (Kd.R_far (p := ⟨gb344, 2, none⟩) (Kd.R_far (p := ⟨gb344, 1, none⟩) (Kd.R_far (p := ⟨gb344, 0, none⟩) (Kd.R_types HO_3.out BK344.out (by decide)) (fun _ hk => hk.2) (.int .i64 t338)) (fun _ hk => hk.2) (.int .i64 t339)) (fun _ hk => hk.2) (.int .i64 t340)) (fun _ hk => hk.2) (.int .i64 t341)) (fun _ hk => hk.2) (.string t342)) (fun _ hk => trivial)⟩, ⟨by (with_reducible repeat (first | refine blk_drewN ?_ _ | refine blk_drew ?_ | refine blk_alloc ?_ _ | refine blk_far ?_ NB292_344.out _)); exact BK292.out⟩, ⟨by repeat (first | (with_reducible first | exact HB.out | apply below_alloc | apply pw_below_drewN | apply below_drew1 | refine below_set ?_ GE292.out | refine below_set ?_ GE336.out | refine below_set ?_ GE344.out) | exact HB.out)⟩⟩
            ·
             rw [if_neg c97] at H
             have c97b0 : (t345 == t343) = false := beq_eq_false_iff_ne.mpr c97
             have c97b1 : (t345 != t343) = true := bne_iff_ne.mpr c97
             obtain rfl := Option.some.inj H
             obtain ⟨Ao109, co109, eo109⟩ := Kd.R_slice HO_3.out
             subst eo109
             have p329 : 0 ≤ (x13_3 : Int) := of_decide_eq_true (by first | (with_reducible assumption) | assumption)
             have q329 : x13_3 < (x3_1.length : Int) := of_decide_eq_true (by first | (with_reducible assumption) | assumption)
             obtain ⟨ad329, e329, hx329_0⟩ := Kd.at_string (Kd.R_reads' HO_3.out).2.2 x13_3 p329 q329
             cases e329
             replace p329 := eq_true p329
             replace q329 := eq_true q329
             go_wp2_with (first | ((with_reducible refine gate_callee (f := 30) rfl ?_); refine goesL_ (some 138) rfl rfl Try.func30 (by kernel_rfl) rfl #[.string (rdOf ByteArray.empty x3_1 x13_3)] rfl (by (try simp only [List.map_toArray, List.map_cons, List.map_nil]); first | done | rfl | (simp only [List.length_drop, List.length_take]; rfl)) ?_; (with_reducible refine (ent_Take.calls k3 (rdOf ByteArray.empty x3_1 x13_3) t330 t331 t332 t333 t334 t335 _ A82.out).mono ?_); rintro e w110 ⟨rfl, hb⟩; refine ⟨_, rfl, ?_⟩; have n0_ := Aside0.mk (Kd.R_below (by (with_reducible repeat (first | apply Kd.R_alloc | apply Kd.R_drewN | apply Kd.R_drew)); exact HO_3.out) hb); have n1_ := Aside0.mk (blk_below (g := gb292) (o := .cells #[.slice A0_0 l0_0.length c0_0, .string a0_1] 24 (0, 0)) (by (with_reducible repeat (first | refine blk_drewN ?_ _ | refine blk_drew ?_ | refine blk_alloc ?_ _)); exact BK292.out) hb); have n2_ := Aside0.mk (below_step (by repeat (first | (with_reducible first | exact HB.out | apply below_alloc | apply pw_below_drewN | apply below_drew1 | refine below_set ?_ GE292.out) | exact HB.out)) hb); clear HO_3; clear BK292; clear HB; have HO_3 := n0_; have BK292 := n1_; have HB := n2_; clear n0_ n1_ n2_; (try clear hb); (try clear hb2); (try clear hk); (try clear hi)) | ((with_reducible refine gate_dst (N := 14) rfl ?_); refine box_event ?hg (N := 14) ?hd (cs := #[.int .i64 0, .int .i64 0, .int .i64 0, .int .i64 0, .string (⟨#[]⟩ : ByteArray)]) (t := 26) ?hr ?_; (case hd => rfl); (case hg => rfl); (case hr => first | (go_simp; done) | (go_simp; rfl)); intro gb336 hg w111 hbox hb; have n0_ := Aside0.mk (Kd.R_below (by (with_reducible repeat (first | apply Kd.R_alloc | apply Kd.R_drewN | apply Kd.R_drew)); exact HO_3.out) hb); have n1_ := Aside0.mk (blk_below (g := gb292) (o := .cells #[.slice A0_0 l0_0.length c0_0, .string a0_1] 24 (0, 0)) (by (with_reducible repeat (first | refine blk_drewN ?_ _ | refine blk_drew ?_ | refine blk_alloc ?_ _)); exact BK292.out) hb); have n2_ := Aside0.mk (below_step (by repeat (first | (with_reducible first | exact HB.out | apply below_alloc | apply pw_below_drewN | apply below_drew1 | refine below_set ?_ GE292.out) | exact HB.out)) hb); have n3_ := Aside0.mk (hbox); have n4_ := Aside0.mk ((by rw [hg]; exact (below_size (by repeat (first | (with_reducible first | exact HB.out | apply below_alloc | apply pw_below_drewN | apply below_drew1 | refine below_set ?_ GE292.out) | exact HB.out))) : w.heap.size ≤ gb336)); have n5_ := Aside0.mk ((by rw [hg]; exact (below_size (by repeat (first | (with_reducible first | exact HB.out | apply below_alloc | apply pw_below_drewN | apply below_drew1 | refine below_set ?_ GE292.out) | exact HB.out))) : w.heap.size ≤ gb336)); have n6_ := Aside0.mk ((by rw [hg]; exact Nat.ne_of_lt (blk_lt (g := gb292) (o := .cells #[.slice A0_0 l0_0.length c0_0, .string a0_1] 24 (0, 0)) (by (with_reducible repeat (first | refine blk_drewN ?_ _ | refine blk_drew ?_ | refine blk_alloc ?_ _)); exact BK292.out)) : gb292 ≠ gb336)); have n7_ := Aside0.mk ((by rw [hg]; exact Nat.ne_of_gt (blk_lt (g := gb292) (o := .cells #[.slice A0_0 l0_0.length c0_0, .string a0_1] 24 (0, 0)) (by (with_reducible repeat (first | refine blk_drewN ?_ _ | refine blk_drew ?_ | refine blk_alloc ?_ _)); exact BK292.out)) : gb336 ≠ gb292)); clear HO_3; clear BK292; clear HB; have HO_3 := n0_; have BK292 := n1_; have HB := n2_; have BK336 := n3_; have GW336 := n4_; have GE336 := n5_; have NB292_336 := n6_; have NB336_292 := n7_; clear n0_ n1_ n2_ n3_ n4_ n5_ n6_ n7_; clear hb hbox hg; have hnb112 := NB336_292.out; have hnc112 := NB292_336.out; obtain ⟨hcz113_0, hcz113_1, hcz113_2, hcz113_3, hcz113_4⟩ := cells5 BK336.out; have hfz113_0 := fun i_ => blk_frozen BK336.out i_; have p337 : 0 ≤ (x13_3 : Int) := of_decide_eq_true (by first | (with_reducible assumption) | assumption); have q337 : x13_3 < (x3_1.length : Int) := of_decide_eq_true (by first | (with_reducible assumption) | assumption); obtain ⟨ad337, e337, hx337_0⟩ := Kd.at_string (Kd.R_reads' HO_3.out).2.2 x13_3 p337 q337; obtain rfl : ad329 = ad337 := (by injection e337); have hn337_0 : ad329.block ≠ gb336 := Kd.own_blk (Kd.R_ne HO_3.out BK336.out (by decide)); have hn337_1 : ad329.block ≠ gb336 := Kd.own_blk (Kd.R_ne HO_3.out BK336.out (by decide)); have hn337_2 : ad329.block ≠ gb336 := Kd.own_blk (Kd.R_ne HO_3.out BK336.out (by decide)); have hn337_3 : ad329.block ≠ gb336 := Kd.own_blk (Kd.R_ne HO_3.out BK336.out (by decide)); have hn337_4 : ad329.block ≠ gb336 := Kd.own_blk (Kd.R_ne HO_3.out BK336.out (by decide)); replace hx337_0 := (cell_far (p := ⟨gb336, 0, none⟩) (by first | (rw [add_block]; exact hn337_0) | (show (Addr.add _ _).block ≠ _; rw [add_block]; exact hn337_0) | exact hn337_0) (.int .i64 t330)).trans hx337_0; replace hx337_0 := (cell_far (p := ⟨gb336, 1, none⟩) (by first | (rw [add_block]; exact hn337_1) | (show (Addr.add _ _).block ≠ _; rw [add_block]; exact hn337_1) | exact hn337_1) (.int .i64 t331)).trans hx337_0; replace hx337_0 := (cell_far (p := ⟨gb336, 2, none⟩) (by first | (rw [add_block]; exact hn337_2) | (show (Addr.add _ _).block ≠ _; rw [add_block]; exact hn337_2) | exact hn337_2) (.int .i64 t332)).trans hx337_0; replace hx337_0 := (cell_far (p := ⟨gb336, 3, none⟩) (by first | (rw [add_block]; exact hn337_3) | (show (Addr.add _ _).block ≠ _; rw [add_block]; exact hn337_3) | exact hn337_3) (.int .i64 t333)).trans hx337_0; replace hx337_0 := (cell_far (p := ⟨gb336, 4, none⟩) (by first | (rw [add_block]; exact hn337_4) | (show (Addr.add _ _).block ≠ _; rw [add_block]; exact hn337_4) | exact hn337_4) (.string t334)).trans hx337_0; clear hn337_0; clear hn337_1; clear hn337_2; clear hn337_3; clear hn337_4; replace p337 := eq_true p337; replace q337 := eq_true q337) | ((with_reducible refine gate_callee (f := 31) rfl ?_); refine goesL_ (some 146) rfl rfl Try.func31 (by kernel_rfl) rfl #[.string (rdOf ByteArray.empty x3_1 x13_3)] rfl (by (try simp only [List.map_toArray, List.map_cons, List.map_nil]); first | done | rfl | (simp only [List.length_drop, List.length_take]; rfl)) ?_; (with_reducible refine (thresherref15_TakeEnt.calls k3 (rdOf ByteArray.empty x3_1 x13_3) t338 t339 t340 t341 t342 t343 _ A83.out).mono ?_); rintro e w114 ⟨rfl, hb⟩; refine ⟨_, rfl, ?_⟩; have n0_ := Aside0.mk (Kd.R_below (by (with_reducible repeat (first | apply Kd.R_alloc | apply Kd.R_drewN | apply Kd.R_drew)); exact (Kd.R_mono (Kd.R_far (p := ⟨gb336, 4, none⟩) (Kd.R_far (p := ⟨gb336, 3, none⟩) (Kd.R_far (p := ⟨gb336, 2, none⟩) (Kd.R_far (p := ⟨gb336, 1, none⟩) (Kd.R_far (p := ⟨gb336, 0, none⟩) (Kd.R_types HO_3.out BK336.out (by decide)) (fun _ hk => hk.2) (.int .i64 t330)) (fun _ hk => hk.2) (.int .i64 t331)) (fun _ hk => hk.2) (.int .i64 t332)) (fun _ hk => hk.2) (.int .i64 t333)) (fun _ hk => hk.2) (.string t334)) (fun _ h_ => h_.1))) hb); have n1_ := Aside0.mk (blk_below (g := gb292) (o := .cells #[.slice A0_0 l0_0.length c0_0, .string a0_1] 24 (0, 0)) (by (with_reducible repeat (first | refine blk_drewN ?_ _ | refine blk_drew ?_ | refine blk_alloc ?_ _ | refine blk_far ?_ NB292_336.out _)); exact BK292.out) hb); have n2_ := Aside0.mk (blk_below (g := gb336) (o := .cells #[.int .i64 t330, .int .i64 t331, .int .i64 t332, .int .i64 t333, .string t334] 26 (0, 0)) (by (with_reducible repeat (first | refine blk_drewN ?_ _ | refine blk_drew ?_ | refine blk_alloc ?_ _)); refine blk_put (cs := #[.int .i64 t330, .int .i64 t331, .int .i64 t332, .int .i64 t333, .string (⟨#[]⟩ : ByteArray)]) ?_ 4 _ rfl; (with_reducible repeat (first | refine blk_drewN ?_ _ | refine blk_drew ?_ | refine blk_alloc ?_ _)); refine blk_put (cs := #[.int .i64 t330, .int .i64 t331, .int .i64 t332, .int .i64 0, .string (⟨#[]⟩ : ByteArray)]) ?_ 3 _ rfl; (with_reducible repeat (first | refine blk_drewN ?_ _ | refine blk_drew ?_ | refine blk_alloc ?_ _)); refine blk_put (cs := #[.int .i64 t330, .int .i64 t331, .int .i64 0, .int .i64 0, .string (⟨#[]⟩ : ByteArray)]) ?_ 2 _ rfl; (with_reducible repeat (first | refine blk_drewN ?_ _ | refine blk_drew ?_ | refine blk_alloc ?_ _)); refine blk_put (cs := #[.int .i64 t330, .int .i64 0, .int .i64 0, .int .i64 0, .string (⟨#[]⟩ : ByteArray)]) ?_ 1 _ rfl; (with_reducible repeat (first | refine blk_drewN ?_ _ | refine blk_drew ?_ | refine blk_alloc ?_ _)); refine blk_put (cs := #[.int .i64 0, .int .i64 0, .int .i64 0, .int .i64 0, .string (⟨#[]⟩ : ByteArray)]) ?_ 0 _ rfl; (with_reducible repeat (first | refine blk_drewN ?_ _ | refine blk_drew ?_ | refine blk_alloc ?_ _)); exact BK336.out) hb); have n3_ := Aside0.mk (below_step (by repeat (first | (with_reducible first | exact HB.out | apply below_alloc | apply pw_below_drewN | apply below_drew1 | refine below_set ?_ GE292.out | refine below_set ?_ GE336.out) | exact HB.out)) hb); clear HO_3; clear BK292; clear BK336; clear HB; have HO_3 := n0_; have BK292 := n1_; have BK336 := n2_; have HB := n3_; clear n0_ n1_ n2_ n3_; (try clear hb); (try clear hb2); (try clear hk); (try clear hi)) | ((with_reducible refine gate_dst (N := 16) rfl ?_); refine box_event ?hg (N := 16) ?hd (cs := #[.int .i64 0, .int .i64 0, .int .i64 0, .int .i64 0, .string (⟨#[]⟩ : ByteArray)]) (t := 26) ?hr ?_; (case hd => rfl); (case hg => rfl); (case hr => first | (go_simp; done) | (go_simp; rfl)); intro gb344 hg w115 hbox hb; have n0_ := Aside0.mk (Kd.R_below (by (with_reducible repeat (first | apply Kd.R_alloc | apply Kd.R_drewN | apply Kd.R_drew)); exact HO_3.out) hb); have n1_ := Aside0.mk (blk_below (g := gb292) (o := .cells #[.slice A0_0 l0_0.length c0_0, .string a0_1] 24 (0, 0)) (by (with_reducible repeat (first | refine blk_drewN ?_ _ | refine blk_drew ?_ | refine blk_alloc ?_ _)); exact BK292.out) hb); have n2_ := Aside0.mk (blk_below (g := gb336) (o := .cells #[.int .i64 t330, .int .i64 t331, .int .i64 t332, .int .i64 t333, .string t334] 26 (0, 0)) (by (with_reducible repeat (first | refine blk_drewN ?_ _ | refine blk_drew ?_ | refine blk_alloc ?_ _)); exact BK336.out) hb); have n3_ := Aside0.mk (below_step (by repeat (first | (with_reducible first | exact HB.out | apply below_alloc | apply pw_below_drewN | apply below_drew1 | refine below_set ?_ GE292.out | refine below_set ?_ GE336.out) | exact HB.out)) hb); have n4_ := Aside0.mk (hbox); have n5_ := Aside0.mk ((by rw [hg]; exact (below_size (by repeat (first | (with_reducible first | exact HB.out | apply below_alloc | apply pw_below_drewN | apply below_drew1 | refine below_set ?_ GE292.out | refine below_set ?_ GE336.out) | exact HB.out))) : w.heap.size ≤ gb344)); have n6_ := Aside0.mk ((by rw [hg]; exact (below_size (by repeat (first | (with_reducible first | exact HB.out | apply below_alloc | apply pw_below_drewN | apply below_drew1 | refine below_set ?_ GE292.out | refine below_set ?_ GE336.out) | exact HB.out))) : w.heap.size ≤ gb344)); have n7_ := Aside0.mk ((by rw [hg]; exact Nat.ne_of_lt (blk_lt (g := gb292) (o := .cells #[.slice A0_0 l0_0.length c0_0, .string a0_1] 24 (0, 0)) (by (with_reducible repeat (first | refine blk_drewN ?_ _ | refine blk_drew ?_ | refine blk_alloc ?_ _)); exact BK292.out)) : gb292 ≠ gb344)); have n8_ := Aside0.mk ((by rw [hg]; exact Nat.ne_of_gt (blk_lt (g := gb292) (o := .cells #[.slice A0_0 l0_0.length c0_0, .string a0_1] 24 (0, 0)) (by (with_reducible repeat (first | refine blk_drewN ?_ _ | refine blk_drew ?_ | refine blk_alloc ?_ _)); exact BK292.out)) : gb344 ≠ gb292)); have n9_ := Aside0.mk ((by rw [hg]; exact Nat.ne_of_lt (blk_lt (g := gb336) (o := .cells #[.int .i64 t330, .int .i64 t331, .int .i64 t332, .int .i64 t333, .string t334] 26 (0, 0)) (by (with_reducible repeat (first | refine blk_drewN ?_ _ | refine blk_drew ?_ | refine blk_alloc ?_ _)); exact BK336.out)) : gb336 ≠ gb344)); have n10_ := Aside0.mk ((by rw [hg]; exact Nat.ne_of_gt (blk_lt (g := gb336) (o := .cells #[.int .i64 t330, .int .i64 t331, .int .i64 t332, .int .i64 t333, .string t334] 26 (0, 0)) (by (with_reducible repeat (first | refine blk_drewN ?_ _ | refine blk_drew ?_ | refine blk_alloc ?_ _)); exact BK336.out)) : gb344 ≠ gb336)); clear HO_3; clear BK292; clear BK336; clear HB; have HO_3 := n0_; have BK292 := n1_; have BK336 := n2_; have HB := n3_; have BK344 := n4_; have GW344 := n5_; have GE344 := n6_; have NB292_344 := n7_; have NB344_292 := n8_; have NB336_344 := n9_; have NB344_336 := n10_; clear n0_ n1_ n2_ n3_ n4_ n5_ n6_ n7_ n8_ n9_ n10_; clear hb hbox hg; have hnb116 := NB344_292.out; have hnc116 := NB292_344.out; have hnb117 := NB344_336.out; have hnc117 := NB336_344.out; obtain ⟨hcz118_0, hcz118_1, hcz118_2, hcz118_3, hcz118_4⟩ := cells5 BK344.out; have hfz118_0 := fun i_ => blk_frozen BK344.out i_; obtain ⟨hcz119_0, hcz119_1, hcz119_2, hcz119_3, hcz119_4⟩ := cells5 BK336.out; have hfz119_0 := fun i_ => blk_frozen BK336.out i_) | (go_at_call 12; (with_reducible refine (thresherlaw16_num.calls t335 t345 _ A96.out).mono ?_); rintro e w' ⟨rfl, ⟨nd, rfl⟩⟩))
             go_ret
             exact ⟨by first | rfl | (simp [errW_none, errW_some] <;> rfl) | (simp [*, errW_none, errW_some] <;> rfl), by repeat (first | (with_reducible first | exact HB.out | apply below_alloc | apply pw_below_drewN | apply below_drew1 | refine below_set ?_ GE292.out | refine below_set ?_ GE336.out | refine below_set ?_ GE344.out) | exact HB.out)⟩
          ·
           rw [if_neg c81] at H
           exact absurd H (by simp)
         ·
          rw [if_neg c80] at H
          have c80b0 : decide (x13_3 < (x3_1.length : Int)) = false := decide_eq_false c80
          clear c80
          replace H := Option.bind_eq_some_iff.mp H
          obtain ⟨t328, A1200, H⟩ := H
          replace H : (some t328) = some r := H
          have A120 := Aside0.mk A1200
          clear A1200
          obtain rfl := Option.some.inj H
          obtain ⟨Ao121, co121, eo121⟩ := Kd.R_slice HO_3.out
          subst eo121
          go_wp2_with (first | ((with_reducible refine gate_callee (f := 14) rfl ?_); refine goesL_ (some 158) rfl rfl Try.func14 (by kernel_rfl) rfl #[] rfl (by (try simp only [List.map_toArray, List.map_cons, List.map_nil]); first | done | rfl | (simp only [List.length_drop, List.length_take]; rfl)) ?_; (with_reducible refine (thresherlaw16_wakes.calls k3  t328 _ A120.out).mono ?_); rintro e w122 ⟨rfl, hb⟩; refine ⟨_, rfl, ?_⟩; have n0_ := Aside0.mk (Kd.R_below (by (with_reducible repeat (first | apply Kd.R_alloc | apply Kd.R_drewN | apply Kd.R_drew)); exact HO_3.out) hb); have n1_ := Aside0.mk (blk_below (g := gb292) (o := .cells #[.slice A0_0 l0_0.length c0_0, .string a0_1] 24 (0, 0)) (by (with_reducible repeat (first | refine blk_drewN ?_ _ | refine blk_drew ?_ | refine blk_alloc ?_ _)); exact BK292.out) hb); have n2_ := Aside0.mk (below_step (by repeat (first | (with_reducible first | exact HB.out | apply below_alloc | apply pw_below_drewN | apply below_drew1 | refine below_set ?_ GE292.out) | exact HB.out)) hb); clear HO_3; clear BK292; clear HB; have HO_3 := n0_; have BK292 := n1_; have HB := n2_; clear n0_ n1_ n2_; (try clear hb); (try clear hb2); (try clear hk); (try clear hi)))
          go_ret
          exact ⟨by first | rfl | (simp [errW_none, errW_some] <;> rfl) | (simp [*, errW_none, errW_some] <;> rfl), by repeat (first | (with_reducible first | exact HB.out | apply below_alloc | apply pw_below_drewN | apply below_drew1 | refine below_set ?_ GE292.out) | exact HB.out)⟩

end Go.Proofs.Ytjnlmcpcdgfpkaa.Q
