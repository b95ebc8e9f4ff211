/- A row of bytes that a string was turned into: its block bears the mark of a conversion, one place behind its cells; what the printed walks ask of such a row. -/
import Derived.Test.YtjboibdoelkfpaaWMore
import Derived.Test.YtjboibdoelkfpaaWFootNe
import Derived.Lib.ConvBytes
import Derived.Laws.AppendOwn
set_option linter.unusedVariables false
namespace Go.Proofs.YtjboibdoelkfpaaW.PrintWords
open Go.RowKit

namespace Kd
section
variable {α β : Type} {d : Kd α} {e : Nat} {w W w1 : World} {base : Nat} {ok ok' : Nat → Prop} {v u : Value} {xs : List α}
/-- The row of a conversion: a block of cells whose mark lies behind them. -/
def B (d : Kd α) (e : Nat) (w : World) (base : Nat) (ok : Nat → Prop) (v : Value) (xs : List α) : Prop :=
  ∃ (g c : Nat) (cs : Array Value), v = .slice (some ⟨g, 0, none⟩) xs.length c ∧ base ≤ g ∧ ok g ∧ xs.length ≤ c ∧ c ≤ cs.size ∧ xs.length ≤ 9223372036854775807 ∧ w.heap[g]? = some (.cells cs e (cs.size, cs.size + 1)) ∧ d.sz = 1 ∧
    ∀ (i : Nat) (x : α), xs[i]? = some x → ∃ y, (∀ w', d.K w' x [y]) ∧ cs[i]? = some y
theorem B_below (h : B d e w base ok v xs) (hb : Below w.heap.size w w1) : B d e w1 base ok v xs := by
  obtain ⟨g, c, cs, rfl, hg, ho, hc, hcs, hl, hh, hr⟩ := h
  exact ⟨g, c, cs, rfl, hg, ho, hc, hcs, hl, blk_below hh hb, hr⟩
theorem B_alloc (h : B d e w base ok v xs) (o : Obj) : B d e (w.alloc o) base ok v xs := B_below h (below_alloc (Below.refl _ _) o)
theorem B_drew (h : B d e w base ok v xs) : B d e w.drew base ok v xs := B_below h (below_drew (Below.refl _ _))
theorem B_drewN (h : B d e w base ok v xs) (m : Nat) : B d e (w.drewN m) base ok v xs := B_below h (pw_below_drewN (Below.refl _ _) m)
theorem B_lower {base' : Nat} (h : B d e w base ok v xs) (hb : base' ≤ base) : B d e w base' ok v xs := by
  obtain ⟨g, c, cs, rfl, hg, hr⟩ := h
  exact ⟨g, c, cs, rfl, by omega, hr⟩
theorem B_mono (h : B d e w base ok v xs) (hok : ∀ k, ok k → ok' k) : B d e w base ok' v xs := by
  obtain ⟨g, c, cs, rfl, hg, ho, hr⟩ := h
  exact ⟨g, c, cs, rfl, hg, hok g ho, hr⟩
theorem B_slice (h : B d e w base ok v xs) : ∃ A c, v = .slice A xs.length c := by
  obtain ⟨g, c, cs, rfl, _⟩ := h
  exact ⟨_, c, rfl⟩
theorem B_cells (h : B d e w base ok v xs) : ∃ g c, v = .slice (some ⟨g, 0, none⟩) xs.length c ∧ ∀ (i : Nat) (x : α), xs[i]? = some x → ∃ y, (∀ w', d.K w' x [y]) ∧ w.cell? ⟨g, i, none⟩ = some y ∧ w.frozen? ⟨g, i, none⟩ = false := by
  obtain ⟨g, c, cs, rfl, hg, ho, hc, hcs, hl, hh, hs, hr⟩ := h
  refine ⟨g, c, rfl, fun i x hx => ?_⟩
  obtain ⟨y, hy, hcell⟩ := hr i x hx
  have hi : i < cs.size := by
    rcases Nat.lt_or_ge i cs.size with hi | hi
    · exact hi
    · rw [Array.getElem?_eq_none hi] at hcell
      cases hcell
  refine ⟨y, hy, (cell_of_row w g i cs e _ hh).trans hcell, ?_⟩
  simp [World.frozen?, hh]
  omega
theorem B_reads' {A : Option Addr} {n c : Nat} (h : B d e w base ok (.slice A n c) xs) : n = xs.length ∧ n ≤ c ∧ d.C w A xs.length xs := by
  have h0 := h
  obtain ⟨g, c', cs, he, hg, ho, hc, hcs, hl, hh, hs, hr⟩ := h
  injection he with h1 h2 h3
  subst h1 h2 h3
  obtain ⟨g', c'', he', hcell⟩ := B_cells h0
  injection he' with h1 _ _
  injection h1 with h1
  injection h1 with h1
  subst h1
  refine ⟨rfl, hc, rfl, hl, fun _ => ⟨_, rfl, fun j p hp => ?_⟩⟩
  obtain ⟨y, hy, hce, _⟩ := hcell j p hp
  refine ⟨[y], by rw [hs]; rfl, hy w, fun i u hu => ?_⟩
  have hi : i = 0 := by
    rcases i with _ | i
    · rfl
    · simp at hu
  subst hi
  simp at hu
  subst hu
  rw [add_plain, hs]
  simpa using hce
theorem B_form (h : B d e w base ok v xs) (_hp : 0 < xs.length) : ∃ g cap, v = .slice (some ⟨g, 0, none⟩) xs.length cap ∧ base ≤ g ∧ g < w.heap.size ∧ ∃ cells : Array Value, ∃ fr, w.heap[g]? = some (.cells cells e fr) := by
  obtain ⟨g, c, cs, rfl, hg, ho, hc, hcs, hl, hh, hr⟩ := h
  exact ⟨g, c, rfl, hg, blk_lt hh, cs, _, hh⟩
theorem B_ne (h : B d e w base ok v xs) {g t : Nat} {cells : Array Value} (hb : w.heap[g]? = some (.cells cells t (0, 0))) (ht : e ≠ t) : some g ≠ v.ownBlock := by
  obtain ⟨g', c, cs, rfl, hg, ho, hc, hcs, hl, hh, hr⟩ := h
  intro hk
  have : g = g' := by simpa [Value.ownBlock] using hk
  subst this
  rw [hh] at hb
  injection hb with hb
  injection hb with _ hb
  exact ht hb
end
section
variable {α : Type} {enc : α → Value} {h1 : ∀ x, (enc x).oneCell' = true} {e g n cap : Nat} {W : World} {base : Nat} {ok : Nat → Prop} {xs : List α}
theorem B_celln (d : α) (h : B (scalar enc h1) e W base ok (.slice (some ⟨g, 0, none⟩) n cap) xs) (i : Int) (h0 : 0 ≤ i) (hi : i < n) : W.cell? ⟨g, i.toNat, none⟩ = some (enc (rdOf d xs i)) ∧ W.frozen? ⟨g, i.toNat, none⟩ = false := by
  obtain ⟨rfl, _⟩ := B_reads' h
  obtain ⟨g', c'', he', hcell⟩ := B_cells h
  injection he' with h1 _ _
  injection h1 with h1
  injection h1 with h1
  subst h1
  have hlt : i.toNat < xs.length := by omega
  obtain ⟨y, hy, hc, hf⟩ := hcell i.toNat _ (List.getElem?_eq_getElem hlt)
  refine ⟨?_, hf⟩
  rw [hc]
  have e1 : [y] = [enc xs[i.toNat]] := hy W
  have e2 : rdOf d xs i = xs[i.toNat] := by
    unfold rdOf
    rw [List.getD_eq_getElem?_getD, List.getElem?_eq_getElem hlt]
    rfl
  rw [e2]
  simpa using e1
theorem B_putn (h : B (scalar enc h1) e W base ok (.slice (some ⟨g, 0, none⟩) n cap) xs) (i : Int) (x : α) : B (scalar enc h1) e (W.setCell ⟨g, i.toNat, none⟩ (enc x)) base ok (.slice (some ⟨g, 0, none⟩) n cap) (xs.set i.toNat x) := by
  obtain ⟨g', c, cs, he, hb, ho, hc, hcs, hl, hh, hs, hr⟩ := h
  injection he with q1 q2 q3
  injection q1 with q1
  injection q1 with q1
  subst q1 q2 q3
  refine ⟨g, cap, cs.setIfInBounds i.toNat (enc x), by rw [List.length_set], hb, ho, by rw [List.length_set]; exact hc, by rw [Array.size_setIfInBounds]; exact hcs, by rw [List.length_set]; exact hl, ?_, hs, ?_⟩
  · rw [Array.size_setIfInBounds]
    simp [World.setCell, Array.getElem?_modify, hh]
  · intro j y hy
    rw [List.getElem?_set] at hy
    by_cases hj : i.toNat = j
    · subst hj
      rw [if_pos rfl] at hy
      split at hy
      · rename_i hlt
        have hlt2 : i.toNat < cs.size := by omega
        cases hy
        refine ⟨enc x, fun _ => rfl, ?_⟩
        rw [Array.getElem?_setIfInBounds_self_of_lt hlt2]
      · cases hy
    · rw [if_neg hj] at hy
      obtain ⟨z, hz, hcz⟩ := hr j y hy
      refine ⟨z, hz, ?_⟩
      rw [Array.getElem?_setIfInBounds_ne hj]
      exact hcz
theorem B_putg (h : B (scalar enc h1) e W base ok (.slice (some ⟨g, 0, none⟩) n cap) xs) (i : Int) (x : α) : B (scalar enc h1) e (W.setCell ⟨g, i.toNat, none⟩ (enc x)) base ok (.slice (some ⟨g, 0, none⟩) n cap) (xs.set i.toNat x) ∧ W.grownBy (W.setCell ⟨g, i.toNat, none⟩ (enc x)) (some g) := by
  refine ⟨B_putn h i x, rfl, rfl, rfl, by simp [World.setCell], fun k hk hne => ?_⟩
  have hne2 : g ≠ k := fun he => hne (by rw [he])
  simp [World.setCell, Array.getElem?_modify, hne2]
end
section
variable {P : Program} {w : World} {base e e' src dst : Nat} {ok : Nat → Prop} {v : Value} {xs : List Int}
theorem B_string (hs : P.underlying src = some (.slice e)) (he : P.underlying e = some (.int .u8)) (hd : P.underlying dst = some .string)
    (h : B (Kd.int .u8) e' w base ok v xs) : (convert src dst v).run P w = .ok (.string (strOfNums xs)) w := by
  obtain ⟨A, c, rfl⟩ := B_slice h
  exact Kd.C_string hs he hd (B_reads' h).2.2
end
section
variable {P : Program} {ops : Array Oper} {rest : List Oper} {o : Oper} {a : Act} {Q : Exit → Act → World → Prop}
theorem B_conv {w0 W : World} {base : Nat} (e : Nat) (hgd : o.guard = none) {N : Tmp} (hd : o.dst = some N) (src dst : TypeId) (x : Operand) (s : ByteArray) (ho : o.op = .convert src dst x) (hx : a.eval x = .string s)
    {u : TypeDesc} (hs : P.underlying src = some u) (ht : P.underlying dst = some (.slice e)) (he : P.underlying e = some (.int .u8)) {ok okp : Nat → Prop} (hok : ∀ k, okp k → ok k) (hfresh : ok W.heap.size) (hsz : s.size ≤ 9223372036854775807)
    (HB : Below base w0 W) (hbase : base ≤ W.heap.size)
    (h : ∀ v1 w1, B (Kd.int .u8) e w1 base ok v1 (bytesOf s) → Below base w0 w1 → W.grownBy w1 none → (∃ b, v1.ownBlock = some b ∧ W.heap.size ≤ b) → wpList P ops Q rest (a.put o.dst v1) w1) : wpList P ops Q (o :: rest) a W := by
  have hr := print_bytes (P := P) src dst e hs ht he s W
  refine Kd.event_run hgd (v := .slice (some ⟨W.heap.size, 0, none⟩) s.size (grownCap W s.size 0 e)) (w1 := Lib.bytesWorld W e s) (by simp [execOp, ho, hx, hr]) (h _ _ ?_ (bytes_below HB hbase e s) ?_ ⟨W.heap.size, by simp [Value.ownBlock], Nat.le_refl _⟩)
  · have hg := grownCap_ge W s.size 0 e
    have hb : (bytesOf s).length = s.size := bytesOf_length s
    have hcs : (Lib.bytesCells W e s).size = grownCap W s.size 0 e := by
      have h2 : s.data.size = s.size := rfl
      simp [Lib.bytesCells]
      omega
    refine ⟨W.heap.size, grownCap W s.size 0 e, Lib.bytesCells W e s, by rw [hb], hbase, hfresh, by rw [hb]; exact hg, by rw [hcs]; exact Nat.le_refl _, by rw [hb]; exact hsz, Lib.bytesWorld_at_new W e s, rfl, fun i x hx => ⟨_, fun _ => rfl, ?_⟩⟩
    have hlt : i < s.data.toList.length := by
      rcases Nat.lt_or_ge i s.data.toList.length with h | h
      · exact h
      · rw [List.getElem?_eq_none (by rw [bytesOf, List.length_map]; exact h)] at hx
        cases hx
    have hlt2 : i < s.data.size := by simpa using hlt
    simp only [bytesOf, List.getElem?_map, List.getElem?_eq_getElem hlt, Option.map_some, Option.some.injEq] at hx
    subst hx
    simp [Lib.bytesCells, Array.getElem?_append, show i < s.size from hlt2]
  · exact grown_of_below (bytes_below (Below.refl _ _) (Nat.le_refl _) e s) none
end
end Kd
/-- A record is stored over a whole block: behind it the world is a letter. -/
theorem store_whole {P : Program} {ops : Array Oper} {rest : List Oper} {o : Oper} {a : Act} {Q : Exit → Act → World → Prop} {W w0 : World} {base : Nat} (t : TypeId) (p : Tmp) (x : Operand) (ho : o.op = .store t (.tmp p) x) (hgd : o.guard = none) (hN : o.dst = none) (g : Nat) (vs : List Value) {e : TypeId} {cur : Array Value}
    (hh : W.heap[g]? = some (.cells cur e (0, 0))) (hp : a.eval (.tmp p) = .pointer (some ⟨g, 0, none⟩)) (hx : a.eval x = .agg vs.toArray) (hu : (Value.agg vs.toArray).cells.toList = vs) (ht : (P.info? t).map (·.size) = some vs.length) (hs : vs.length = cur.size) (h1 : ∀ q ∈ vs, q.oneCell' = true)
    (HB : Below base w0 W) (hg : base ≤ g)
    (h : ∀ w1, w1.heap[g]? = some (.cells vs.toArray e (0, 0)) → Below base w0 w1 → wpList P ops Q rest a w1) : wpList P ops Q (o :: rest) a W := by
  obtain ⟨cur', h3, h4, h5⟩ := setCells_row vs 0 W cur hh (by omega)
  obtain ⟨s1, s2, s3, s4⟩ := setCells_same g vs 0 W
  have hc : cur' = vs.toArray := by
    apply Array.toList_inj.1
    rw [h5, List.take_zero, List.nil_append, List.drop_eq_nil_of_le (by rw [Array.length_toList]; omega), List.append_nil]
  subst hc
  have hB : Below base w0 (W.setCells g 0 vs) := HB.trans ⟨s1, s2, s3, by rw [s4]; exact Nat.le_refl _, fun k hk => by
    exact setCells_far vs 0 k (by omega)⟩
  refine wpList_plain hgd fun K hK => ?_
  have hrun : (Instr.storeAt t (.pointer (some ⟨g, 0, none⟩)) (.agg vs.toArray)).run P W = .ok () (W.setCells g 0 vs) := run_store_run t (.agg vs.toArray) vs hh hu ht (by omega) h1
  unfold Oper.wp execOp
  simp only [ho, hp, hx, Sem.run_bind, Sem.run_pure, Result.andThen_ok, hrun]
  show K (a.put o.dst undef) _
  rw [hN]
  exact hK _ _ (h _ h3 hB)
/-- Eleven cells were stored one by one over a whole block: the world as a letter. -/
theorem nest11 {C : World → Prop} {W : World} {g : Nat} {v0 v1 v2 v3 v4 v5 v6 v7 v8 v9 v10 : Value} {cur : Array Value} {e : TypeId} (hh : W.heap[g]? = some (.cells cur e (0, 0))) (hs : cur.size = 11)
    (h : ∀ w1, w1.heap[g]? = some (.cells #[v0, v1, v2, v3, v4, v5, v6, v7, v8, v9, v10] e (0, 0)) → (∀ (base : Nat) (w0 : World), Below base w0 W → base ≤ g → Below base w0 w1) → C w1) : C (((((((((((W.setCell ⟨g, 0, none⟩ v0).setCell ⟨g, 1, none⟩ v1).setCell ⟨g, 2, none⟩ v2).setCell ⟨g, 3, none⟩ v3).setCell ⟨g, 4, none⟩ v4).setCell ⟨g, 5, none⟩ v5).setCell ⟨g, 6, none⟩ v6).setCell ⟨g, 7, none⟩ v7).setCell ⟨g, 8, none⟩ v8).setCell ⟨g, 9, none⟩ v9).setCell ⟨g, 10, none⟩ v10) := by
  obtain ⟨cur', h3, h4, h5⟩ := setCells_row [v0, v1, v2, v3, v4, v5, v6, v7, v8, v9, v10] 0 W cur hh (by simp; omega)
  obtain ⟨s1, s2, s3, s4⟩ := setCells_same g [v0, v1, v2, v3, v4, v5, v6, v7, v8, v9, v10] 0 W
  have hc : cur' = #[v0, v1, v2, v3, v4, v5, v6, v7, v8, v9, v10] := by
    apply Array.toList_inj.1
    rw [h5, List.take_zero, List.nil_append, List.drop_eq_nil_of_le (by rw [Array.length_toList]; simp; omega), List.append_nil]
  subst hc
  exact h (W.setCells g 0 [v0, v1, v2, v3, v4, v5, v6, v7, v8, v9, v10]) h3 (fun base w0 HB hg => HB.trans ⟨s1, s2, s3, by rw [s4]; exact Nat.le_refl _, fun k hk => by
    exact setCells_far _ 0 k (by omega)⟩)
end Go.Proofs.YtjboibdoelkfpaaW.PrintWords
