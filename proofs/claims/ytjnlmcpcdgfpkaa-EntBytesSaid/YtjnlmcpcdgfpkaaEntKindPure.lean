/- The statements of one kind of entries over their printed functions: whatever entries are handed in, they tell true. -/
import Derived.Test.YtjnlmcpcdgfpkaaQ12
import Derived.Test.YtjnlmcpcdgfpkaaQ8
import Derived.Test.YtjnlmcpcdgfpkaaEntPure
import Derived.Test.YtjnlmcpcdgfpkaaQOk
namespace Go.Proofs.Ytjnlmcpcdgfpkaa.EntKindPure
open Go Go.RowKit Go.Proofs.YtjnlmcpcdgfpkaaW.PrintWords Go.Proofs.YtjnlmcpcdgfpkaaW.PrintMore Go.Proofs.Ytjnlmcpcdgfpkaa.Num7 Go.Proofs.Ytjnlmcpcdgfpkaa.Bits7 Go.Proofs.Ytjnlmcpcdgfpkaa.NumPure Go.Proofs.Ytjnlmcpcdgfpkaa.EntPure Go.Proofs.Ytjnlmcpcdgfpkaa.Q Go.Proofs.Ytjnlmcpcdgfpkaa.QOk

def tot (l : List S26) : Nat := (l.map (·.f4.size)).sum
theorem rd_getD (l : List S26) (i : Nat) : rd_T26 l (i : Int) = l.getD i z26 := by
  simp [rd_T26]
theorem drop_getD (l : List S26) (i : Nat) (h : i < l.length) : l.drop i = l.getD i z26 :: l.drop (i + 1) := by
  rw [List.drop_eq_getElem_cons h, List.getD_eq_getElem?_getD, List.getElem?_eq_getElem h]
  rfl
theorem getD_mem (l : List S26) (i : Nat) (h : i < l.length) : l.getD i z26 ∈ l := by
  rw [List.getD_eq_getElem?_getD, List.getElem?_eq_getElem h]
  exact List.getElem_mem h
theorem mem_tot (l : List S26) (x : S26) (h : x ∈ l) : x.f4.size ≤ tot l := by
  induction l with
  | nil => simp at h
  | cons y l ih =>
    unfold tot at ih ⊢
    simp only [List.map_cons, List.sum_cons]
    rcases List.mem_cons.1 h with rfl | h
    · omega
    · have := ih h
      omega
theorem weight_l0 (l : List S26) (hb : ∀ x ∈ l, x.f4.size ≤ 140737488351232) (hl : l.length ≤ 140737488351232) (d : Nat) : ∀ (i n : Nat), i + d = l.length → n ≤ 140737490000000 → ∃ r : Nat, Ev (fun k => thresherlaw0_EntriesWeight.l0 k l (n : Int) (i : Int)) (r : Int) ∧ n ≤ r ∧ (1048576 ≤ r ∨ r = n + tot (l.drop i)) := by
  induction d with
  | zero =>
    intro i n hd hn
    refine ⟨n, Ev.step (fun k => by rw [thresherlaw0_EntriesWeight.l0]) (ev_neg (by omega) (ev_some rfl)), Nat.le_refl _, .inr ?_⟩
    rw [List.drop_eq_nil_of_le (by omega)]
    simp [tot]
  | succ d ih =>
    intro i n hd hn
    by_cases h : n < 1048576
    · have hi : i < l.length := by omega
      have hx := hb _ (getD_mem l i hi)
      obtain ⟨r, hr, h1, h2⟩ := ih (i + 1) (n + (l.getD i z26).f4.size) (by omega) (by omega)
      refine ⟨r, Ev.step (fun k => by rw [thresherlaw0_EntriesWeight.l0]) (ev_pos (by omega) (ev_pos (by omega) (ev_pos (by omega) ?_))), by omega, ?_⟩
      · rw [rd_getD, w64 (x := (i : Int) + 1) (by omega) (by omega), w64 (by omega) (by omega), show (i : Int) + 1 = ((i + 1 : Nat) : Int) by omega, show (n : Int) + ((l.getD i z26).f4.size : Int) = ((n + (l.getD i z26).f4.size : Nat) : Int) by omega]
        exact hr
      · rcases h2 with h2 | h2
        · exact .inl h2
        · refine .inr ?_
          rw [drop_getD l i hi]
          unfold tot at h2 ⊢
          simp only [List.map_cons, List.sum_cons]
          omega
    · exact ⟨n, Ev.step (fun k => by rw [thresherlaw0_EntriesWeight.l0]) (ev_pos (by omega) (ev_neg (by omega) (ev_some rfl))), Nat.le_refl _, .inl (by omega)⟩
/-- Whatever is handed in is either more than is played, or it is little. -/
theorem heavy_ev (l : List S26) (x : ByteArray) (hb : ∀ x ∈ l, x.f4.size ≤ 140737488351232) (hl : l.length ≤ 10000000000000) : ∃ b : Bool, Ev (fun k => thresherlaw16_Heavy.f k l x) b ∧ (b = false → l.length ≤ 12000 ∧ tot l ≤ 12000 ∧ x.size ≤ 5000) := by
  obtain ⟨r, hr, h1, h2⟩ := weight_l0 l hb (by omega) l.length 0 l.length (by omega) (by omega)
  have hw : Ev (fun k => thresherlaw0_EntriesWeight.f k l) (r : Int) := hr
  by_cases h : (r : Int) > 12000
  · exact ⟨true, Ev.bind hw (ev_pos h (ev_some rfl)), fun h => by cases h⟩
  · refine ⟨decide ((x.size : Int) > 5000), Ev.bind hw (ev_neg h (ev_some rfl)), fun hf => ?_⟩
    have hx : ¬ ((x.size : Int) > 5000) := by simpa using hf
    rcases h2 with h2 | h2
    · omega
    · rw [List.drop_zero] at h2
      omega

theorem j4_ev (x1 : Int) (i : Nat) (hi : i < 9223372036854775806) (l : List S26) (x : ByteArray) (K J S C : Int) (D : ByteArray) (hr : Ev (fun k => thresherlaw16_kind.l0 k x1 ((i + 1 : Nat) : Int) l x) true) : Ev (fun k => thresherlaw16_kind.j4 k x1 (i : Int) l x K J S C D) true := by
  refine Ev.step (fun k => by rw [thresherlaw16_kind.j4]) ?_
  have next : ∀ s : ByteArray, Ev (fun k => thresherlaw16_kind.j6 k x1 (i : Int) s s (s.toList != s.toList) l x) true := by
    intro s
    refine Ev.step (fun k => by rw [thresherlaw16_kind.j6]) ?_
    refine ev_neg (by simp) (Ev.bind (ent_Take_ev s) (Ev.bind (ref_TakeEnt_ev s) ?_))
    refine ev_one (a := (takeE s).2.2.2.2.2) rfl (ev_pos rfl ?_)
    refine ev_neg (by simp) ?_
    rw [w64 (x := (i : Int) + 1) (by omega) (by omega), show (i : Int) + 1 = ((i + 1 : Nat) : Int) by omega]
    exact hr
  by_cases h : entOk K J S C D
  · refine Ev.bind (ent_Bytes_ok K J S C D h) (Ev.bind (entry_ev K J S C D) (ev_pos (decide_eq_true h) (Ev.bind (ref_EntBytes_ev K J S C D h) ?_)))
    refine Ev.step (fun k => by rw [thresherlaw16_kind.j5]) ?_
    exact ev_one (a := (0 : Int)) rfl (ev_pos rfl (next _))
  · refine Ev.bind (ent_Bytes_bad K J S C D h) (Ev.bind (entry_ev K J S C D) (ev_neg (by simpa using h) ?_))
    refine Ev.step (fun k => by rw [thresherlaw16_kind.j5]) ?_
    exact ev_one (a := (1 : Int)) rfl (ev_pos rfl (next _))
theorem j3_ev (x1 : Int) (i : Nat) (hi : i < 9223372036854775806) (l : List S26) (x : ByteArray) (b : Bool) (K J S C : Int) (D : ByteArray) (hr : Ev (fun k => thresherlaw16_kind.l0 k x1 ((i + 1 : Nat) : Int) l x) true) : Ev (fun k => thresherlaw16_kind.j3 k x1 (i : Int) b l x K J S C D) true := by
  refine Ev.step (fun k => by rw [thresherlaw16_kind.j3]) ?_
  by_cases h : b = true
  · exact ev_pos h (j4_ev x1 i hi l x K J S C _ hr)
  · exact ev_neg h (j4_ev x1 i hi l x K J S C _ hr)
theorem j2_ev (x1 : Int) (i : Nat) (hi : i < 9223372036854775806) (l : List S26) (x : ByteArray) (K J S C : Int) (D : ByteArray) (hr : Ev (fun k => thresherlaw16_kind.l0 k x1 ((i + 1 : Nat) : Int) l x) true) : Ev (fun k => thresherlaw16_kind.j2 k x1 (i : Int) l x K J S C D) true := by
  refine Ev.step (fun k => by rw [thresherlaw16_kind.j2]) ?_
  by_cases h4 : x1 = 4
  · exact ev_pos h4 (j3_ev x1 i hi l x _ K J S C D hr)
  · refine ev_neg h4 ?_
    by_cases h5 : x1 = 5
    · exact ev_pos h5 (j3_ev x1 i hi l x _ K J S C D hr)
    · refine ev_neg h5 ?_
      by_cases h3 : x1 = 3
      · exact ev_pos h3 (j3_ev x1 i hi l x _ K J S C D hr)
      · exact ev_neg h3 (j3_ev x1 i hi l x _ K J S C D hr)
theorem l0_ev (x1 : Int) (l : List S26) (x : ByteArray) (hl : l.length ≤ 12000) (d : Nat) : ∀ i : Nat, i + d = l.length → Ev (fun k => thresherlaw16_kind.l0 k x1 (i : Int) l x) true := by
  have last : ∀ i : Int, Ev (fun k => thresherlaw16_kind.j1 k x1 i false l x) true := fun i => Ev.step (fun k => by rw [thresherlaw16_kind.j1]) (ev_neg (by simp) (Ev.bind wakes_ev (ev_some rfl)))
  induction d with
  | zero =>
    intro i hd
    exact Ev.step (fun k => by rw [thresherlaw16_kind.l0]) (ev_neg (by omega) (last _))
  | succ d ih =>
    intro i hd
    have hr := ih (i + 1) (by omega)
    have hi : i < 9223372036854775806 := by omega
    refine Ev.step (fun k => by rw [thresherlaw16_kind.l0]) (ev_pos (by omega) ?_)
    by_cases h12 : (i : Int) < 12
    · rw [decide_eq_true h12]
      refine Ev.step (fun k => by rw [thresherlaw16_kind.j1]) (ev_pos rfl (ev_pos (by omega) (ev_pos (by omega) ?_)))
      by_cases h2 : x1 = 2
      · exact ev_pos h2 (j2_ev x1 i hi l x _ _ _ _ _ hr)
      · refine ev_neg h2 ?_
        by_cases h3 : x1 = 3
        · exact ev_pos h3 (j2_ev x1 i hi l x _ _ _ _ _ hr)
        · refine ev_neg h3 ?_
          by_cases h5 : x1 = 5
          · exact ev_pos h5 (j2_ev x1 i hi l x _ _ _ _ _ hr)
          · exact ev_neg h5 (j2_ev x1 i hi l x _ _ _ _ _ hr)
    · rw [decide_eq_false h12]
      exact last _
theorem kind_ev (x1 : Int) (x : S24) (hok : okS24 x) : Ev (fun k => thresherlaw16_kind.f k x.f0 x.f1 x1) true := by
  obtain ⟨⟨hl, hx⟩, hs⟩ := hok
  obtain ⟨b, hb, hn⟩ := heavy_ev x.f0 x.f1 (fun e he => (hx e he).2.2.2.2) (by omega)
  unfold thresherlaw16_kind.f
  refine Ev.bind hb ?_
  by_cases h : b = true
  · exact ev_pos h (ev_some rfl)
  · exact ev_neg h (l0_ev x1 x.f0 x.f1 (hn (by simpa using h)).1 x.f0.length 0 (by omega))
end Go.Proofs.Ytjnlmcpcdgfpkaa.EntKindPure
