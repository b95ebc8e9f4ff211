/- The statements on disks over their printed functions: whatever script is handed in, they tell true. -/
import Derived.Test.YtlilfbkgkobgmaaQ2
import Derived.Test.YtlilfbkgkobgmaaQ4
import Derived.Test.YtlilfbkgkobgmaaBits7
import Derived.Test.YtlilfbkgkobgmaaQOk
namespace Go.Proofs.Ytlilfbkgkobgmaa.DiskPure
open Go Go.RowKit Go.Proofs.YtlilfbkgkobgmaaW.PrintWords Go.Proofs.YtlilfbkgkobgmaaW.PrintMore Go.Proofs.Ytlilfbkgkobgmaa.Num7 Go.Proofs.Ytlilfbkgkobgmaa.Bits7 Go.Proofs.Ytlilfbkgkobgmaa.Q Go.Proofs.Ytlilfbkgkobgmaa.QOk

theorem rd_getD (l : List S40) (i : Nat) : rd_T40 l (i : Int) = l.getD i z40 := by
  simp [rd_T40]
theorem getD_mem (l : List S40) (i : Nat) (h : i < l.length) : l.getD i z40 ∈ l := by
  rw [List.getD_eq_getElem?_getD, List.getElem?_eq_getElem h]
  exact List.getElem_mem h
theorem heavy_l0 (s : ByteArray) (l : List S40) (hb : ∀ x ∈ l, okS40 x) (hl : l.length ≤ 140737488351232) (d : Nat) : ∀ (i n : Nat), i + d = l.length → n ≤ 140737490000000 → ∃ r : Nat, Ev (fun k => thresherlaw17_heavy.l0 k (n : Int) (i : Int) s l) (decide ((r : Int) > 6000)) ∧ n ≤ r ∧ (1048576 ≤ r ∨ n + d ≤ r) := by
  induction d with
  | zero =>
    intro i n hd hn
    exact ⟨n, Ev.step (fun k => by rw [thresherlaw17_heavy.l0]) (ev_neg (by omega) (ev_some rfl)), Nat.le_refl _, .inr (by omega)⟩
  | succ d ih =>
    intro i n hd hn
    by_cases h : n < 1048576
    · have hi : i < l.length := by omega
      have hx := (hb _ (getD_mem l i hi)).2.2
      obtain ⟨r, hr, h1, h2⟩ := ih (i + 1) (n + 1 + (l.getD i z40).f2.size) (by omega) (by omega)
      refine ⟨r, Ev.step (fun k => by rw [thresherlaw17_heavy.l0]) (ev_pos (by omega) (ev_pos (by omega) (ev_pos (by omega) ?_))), by omega, by omega⟩
      rw [rd_getD, w64 (x := (i : Int) + 1) (by omega) (by omega), w64 (x := (n : Int) + 1) (by omega) (by omega), w64 (by omega) (by omega), show (i : Int) + 1 = ((i + 1 : Nat) : Int) by omega, show (n : Int) + 1 + ((l.getD i z40).f2.size : Int) = ((n + 1 + (l.getD i z40).f2.size : Nat) : Int) by omega]
      exact hr
    · exact ⟨n, Ev.step (fun k => by rw [thresherlaw17_heavy.l0]) (ev_pos (by omega) (ev_neg (by omega) (ev_some rfl))), Nat.le_refl _, .inl (by omega)⟩
theorem heavy_ev (s : ByteArray) (l : List S40) (hs : s.size ≤ 140737488351232) (hb : ∀ x ∈ l, okS40 x) (hl : l.length ≤ 140737488351232) : ∃ b : Bool, Ev (fun k => thresherlaw17_heavy.f k s l) b ∧ (b = false → s.size ≤ 6000 ∧ l.length ≤ 6000) := by
  obtain ⟨r, hr, h1, h2⟩ := heavy_l0 s l hb hl l.length 0 s.size (by omega) (by omega)
  refine ⟨_, hr, fun hf => ?_⟩
  have hx : ¬ ((r : Int) > 6000) := by simpa using hf
  omega
theorem exact_ev (s : ByteArray) (l : List S40) (hs : s.size ≤ 140737488351232) (hb : ∀ x ∈ l, okS40 x) (hl : l.length ≤ 140737488351232) : Ev (fun k => thresherlaw17_DiskExact.f k s l) true := by
  obtain ⟨b, hv, h⟩ := heavy_ev s l hs hb hl
  refine Ev.bind hv ?_
  cases b with
  | true => exact ev_some rfl
  | false =>
    obtain ⟨h1, h2⟩ := h rfl
    exact ev_neg (by decide) (ev_pos ⟨by omega, fun x hx => (hb x hx).2.1.2⟩ (ev_some rfl))
theorem only_l0 (s : ByteArray) (l : List S40) (hs : s.size ≤ 140737488351232) (hb : ∀ x ∈ l, okS40 x) (hl : l.length ≤ 6000) (a : Int) (ha : -9223372036854775808 ≤ a ∧ a ≤ 9223372036854775807) (d : Nat) : ∀ (i : Nat) (q : List S40), i + d = l.length → q.length = i → (∀ x ∈ q, okS40 x) → Ev (fun k => thresherlaw17_only.l0 k a (i : Int) s l s q) true := by
  induction d with
  | zero =>
    intro i q hd hq hok
    exact Ev.step (fun k => by rw [thresherlaw17_only.l0]) (ev_neg (by omega) (Ev.bind (exact_ev s q hs hok (by omega)) (ev_some rfl)))
  | succ d ih =>
    intro i q hd hq hok
    have hi : i < l.length := by omega
    have hx := hb _ (getD_mem l i hi)
    have hm : Int.tmod (i : Int) 3 = ((i % 3 : Nat) : Int) := by
      rw [Int.tmod_eq_emod_of_nonneg (by omega)]
      omega
    have hlt : i % 3 < 3 := Nat.mod_lt _ (by omega)
    refine Ev.step (fun k => by rw [thresherlaw17_only.l0]) (ev_pos (by omega) (ev_pos (by omega) (Ev.bind (ev_some rfl) ?_)))
    refine ev_pos (by rw [hm]; omega) (ev_pos (by rw [hm]; show ((i % 3 : Nat) : Int) < 3; omega) (ev_pos (by omega) ?_))
    rw [w64 (x := (i : Int) + 1) (by omega) (by omega), show (i : Int) + 1 = ((i + 1 : Nat) : Int) by omega, rd_getD, hm]
    refine ih (i + 1) _ (by omega) (by simp [hq]) ?_
    intro x hx2
    rcases List.mem_append.1 hx2 with hx2 | hx2
    · exact hok x hx2
    · obtain rfl := List.mem_singleton.1 hx2
      refine ⟨?_, hx.2⟩
      show -9223372036854775808 ≤ rd [2, a, 0] ((i % 3 : Nat) : Int) ∧ rd [2, a, 0] ((i % 3 : Nat) : Int) ≤ 9223372036854775807
      obtain h | h | h : i % 3 = 0 ∨ i % 3 = 1 ∨ i % 3 = 2 := by omega
      · rw [h]
        exact (show -9223372036854775808 ≤ (2 : Int) ∧ (2 : Int) ≤ 9223372036854775807 from by decide)
      · rw [h]
        exact ha
      · rw [h]
        exact (show -9223372036854775808 ≤ (0 : Int) ∧ (0 : Int) ≤ 9223372036854775807 from by decide)
theorem only_ev (s : ByteArray) (l : List S40) (hs : s.size ≤ 140737488351232) (hb : ∀ x ∈ l, okS40 x) (hl : l.length ≤ 140737488351232) (a : Int) (ha : -9223372036854775808 ≤ a ∧ a ≤ 9223372036854775807) : Ev (fun k => thresherlaw17_only.f k s l a) true := by
  obtain ⟨b, hv, h⟩ := heavy_ev s l hs hb hl
  refine Ev.bind hv ?_
  cases b with
  | true => exact ev_pos rfl (ev_some rfl)
  | false =>
    obtain ⟨h1, h2⟩ := h rfl
    exact ev_neg (by decide) (only_l0 s l hs hb h2 a ha l.length 0 [] (by omega) rfl (fun _ h => by cases h))
theorem ok_parts (x : S24) (hok : okS24 x) : x.f0.size ≤ 140737488351232 ∧ (∀ y ∈ x.f1, okS40 y) ∧ x.f1.length ≤ 140737488351232 := ⟨hok.1, hok.2.2, by have := hok.2.1; omega⟩
end Go.Proofs.Ytlilfbkgkobgmaa.DiskPure
