/- FrameBytes over its printed functions: whatever texts are handed in, it tells true. -/
import Derived.Test.YtjnlmcpcdgfpkaaQ6
import Derived.Test.YtjnlmcpcdgfpkaaQ5
import Derived.Test.YtjnlmcpcdgfpkaaQ3
import Derived.Test.YtjnlmcpcdgfpkaaFramePure
namespace Go.Proofs.Ytjnlmcpcdgfpkaa.FrameBytesPure
open Go Go.RowKit Go.Proofs.YtjnlmcpcdgfpkaaW.PrintWords Go.Proofs.YtjnlmcpcdgfpkaaW.PrintMore Go.Proofs.Ytjnlmcpcdgfpkaa.Num7 Go.Proofs.Ytjnlmcpcdgfpkaa.Bits7 Go.Proofs.Ytjnlmcpcdgfpkaa.NumPure Go.Proofs.Ytjnlmcpcdgfpkaa.FramePure Go.Proofs.Ytjnlmcpcdgfpkaa.Q

def tot (l : List ByteArray) : Nat := (l.map (·.size)).sum
theorem rdOf_getD (l : List ByteArray) (i : Nat) : rdOf ByteArray.empty l (i : Int) = l.getD i ByteArray.empty := by
  simp [rdOf]
theorem drop_getD (l : List ByteArray) (i : Nat) (h : i < l.length) : l.drop i = l.getD i ByteArray.empty :: l.drop (i + 1) := by
  rw [List.drop_eq_getElem_cons h, List.getD_eq_getElem?_getD, List.getElem?_eq_getElem h]
  rfl
theorem getD_mem (l : List ByteArray) (i : Nat) (h : i < l.length) : l.getD i ByteArray.empty ∈ l := by
  rw [List.getD_eq_getElem?_getD, List.getElem?_eq_getElem h]
  exact List.getElem_mem h
theorem mem_tot (l : List ByteArray) (x : ByteArray) (h : x ∈ l) : x.size ≤ tot l := by
  induction l with
  | nil => simp at h
  | cons y l ih =>
    unfold tot at ih ⊢
    simp only [List.map_cons, List.sum_cons]
    rcases List.mem_cons.1 h with rfl | h
    · omega
    · have := ih h
      omega
theorem weight_l0 (l : List ByteArray) (hb : ∀ x ∈ l, x.size ≤ 140737488351232) (hl : l.length ≤ 140737488351232) (d : Nat) : ∀ (i n : Nat), i + d = l.length → n ≤ 140737490000000 → ∃ r : Nat, Ev (fun k => thresherlaw0_TextWeight.l0 k l (n : Int) (i : Int)) (r : Int) ∧ n ≤ r ∧ (1048576 ≤ r ∨ r = n + tot (l.drop i)) := by
  induction d with
  | zero =>
    intro i n hd hn
    refine ⟨n, Ev.step (fun k => by rw [thresherlaw0_TextWeight.l0]) (ev_neg (by omega) (ev_some rfl)), Nat.le_refl _, .inr ?_⟩
    rw [List.drop_eq_nil_of_le (by omega)]
    simp [tot]
  | succ d ih =>
    intro i n hd hn
    by_cases h : n < 1048576
    · have hi : i < l.length := by omega
      have hx := hb _ (getD_mem l i hi)
      obtain ⟨r, hr, h1, h2⟩ := ih (i + 1) (n + (l.getD i ByteArray.empty).size) (by omega) (by omega)
      refine ⟨r, Ev.step (fun k => by rw [thresherlaw0_TextWeight.l0]) (ev_pos (by omega) (ev_pos (by omega) (ev_pos (by omega) ?_))), by omega, ?_⟩
      · rw [rdOf_getD, w64 (x := (i : Int) + 1) (by omega) (by omega), w64 (by omega) (by omega), show (i : Int) + 1 = ((i + 1 : Nat) : Int) by omega, show (n : Int) + ((l.getD i ByteArray.empty).size : Int) = ((n + (l.getD i ByteArray.empty).size : Nat) : Int) by omega]
        exact hr
      · rcases h2 with h2 | h2
        · exact .inl h2
        · refine .inr ?_
          rw [drop_getD l i hi]
          unfold tot at h2 ⊢
          simp only [List.map_cons, List.sum_cons]
          omega
    · exact ⟨n, Ev.step (fun k => by rw [thresherlaw0_TextWeight.l0]) (ev_pos (by omega) (ev_neg (by omega) (ev_some rfl))), Nat.le_refl _, .inl (by omega)⟩

theorem wakes_ev : Ev (fun k => thresherlaw5_wakes.f k) true := by
  unfold thresherlaw5_wakes.f
  refine Ev.bind (frame_Bytes_ev ⟨#[]⟩ (by decide)) (ev_one (a := 0) rfl (ev_pos rfl (ev_some ?_)))
  rw [frame_size]
  rfl
theorem last_ev : Ev (fun k => if 32769 ≤ 281474976710656 then ((frame_Bytes.f k (strOfNums (List.replicate 32769 0))).bind fun bt204 => ((thresherlaw5_num.f bt204.2).bind fun t206 => (if t206 = 2 then ((thresherlaw5_wakes.f k).bind fun t207 => (some t207)) else (some false)))) else (none)) true := by
  refine ev_pos (by decide) (Ev.bind (frame_Bytes_long _ (by rw [strOfNums_size, List.length_replicate]; decide)) (ev_one (a := 2) rfl (ev_pos rfl (Ev.bind wakes_ev (ev_some rfl)))))

theorem all_l1 (x0 : List ByteArray) (x3 : ByteArray) (x4 : Int) (x7 : List ByteArray) (h7 : ∀ x ∈ x7, x.size ≤ 100000) (h74 : x7.length ≤ 4) (r : Bool) (hr : Ev (fun k => thresherlaw5_FrameBytes.l0 k x0 x3 (wrap64 (x4 + 1))) r) (d : Nat) : ∀ j : Nat, j + d = x7.length → Ev (fun k => thresherlaw5_FrameBytes.l1 k x0 x3 x4 x7 (j : Int)) r := by
  induction d with
  | zero =>
    intro j hj
    refine Ev.step (fun k => by rw [thresherlaw5_FrameBytes.l1]) (ev_neg (by omega) ?_)
    exact hr
  | succ d ih =>
    intro j hj
    have hs := h7 _ (getD_mem x7 j (by omega))
    refine Ev.step (fun k => by rw [thresherlaw5_FrameBytes.l1]) (ev_pos (by omega) (ev_pos (by omega) ?_))
    rw [rdOf_getD]
    refine Ev.bind (frame_Take_ev _ (by omega)) (Ev.bind (ref_TakeFrame_ev _ (by omega)) (Ev.bind (frame_Scan_ev _ (by omega)) (Ev.bind (ref_Scan_ev _ (by omega)) (ev_pos rfl (ev_pos rfl (ev_one (a := (takeF (x7.getD j ByteArray.empty)).2.2) rfl (ev_pos rfl (Ev.bind (eqs_ev _ (by have := scan_length (x7.getD j ByteArray.empty); omega)) (ev_pos rfl (ev_pos rfl ?_))))))))))
    rw [w64 (x := (j : Int) + 1) (by omega) (by omega), show (j : Int) + 1 = ((j + 1 : Nat) : Int) by omega]
    exact ih (j + 1) (by omega)

theorem law_l0 (l : List ByteArray) (hb : ∀ x ∈ l, x.size ≤ 9000) (d : Nat) : ∀ (i : Nat) (row : ByteArray), i + d = l.length → row.size ≤ i * 9008 → Ev (fun k => thresherlaw5_FrameBytes.l0 k l row (i : Int)) true := by
  induction d with
  | zero =>
    intro i row hd hrow
    refine Ev.step (fun k => by rw [thresherlaw5_FrameBytes.l0]) (ev_neg (by omega) (Ev.step (fun k => by rw [thresherlaw5_FrameBytes.j1]) (ev_neg (by simp) last_ev)))
  | succ d ih =>
    intro i row hd hrow
    refine Ev.step (fun k => by rw [thresherlaw5_FrameBytes.l0]) (ev_pos (by omega) (Ev.step (fun k => by rw [thresherlaw5_FrameBytes.j1]) ?_))
    by_cases h10 : i < 10
    · have hs := hb _ (getD_mem l i (by omega))
      refine ev_pos (by simp; omega) (ev_pos (by omega) (ev_pos (by omega) ?_))
      rw [rdOf_getD]
      refine Ev.bind (frame_Bytes_ev _ (by omega)) (ev_one (a := 0) rfl (ev_pos rfl (Ev.bind (ref_Frame_ev _ (by omega)) (Ev.step (fun k => by rw [thresherlaw5_FrameBytes.j2]) (ev_neg (by simp) (ev_pos (by omega) (ev_pos (by omega) ?_)))))))
      rw [rdOf_getD]
      have hf := frame_size (l.getD i ByteArray.empty)
      have hrow9 : row.size ≤ 81072 := by omega
      refine Ev.bind (ref_Frame_ev _ (by omega)) (ev_pos (by (try dsimp only); omega) (ev_pos (by (try dsimp only); omega) (ev_pos (by (try dsimp only); omega) ?_)))
      refine all_l1 l _ (i : Int) _ ?_ (by simp) true ?_ 4 0 rfl
      · intro x hx
        simp only [List.mem_cons, List.not_mem_nil, or_false] at hx
        rcases hx with rfl | rfl | rfl | rfl
        · omega
        · rw [ByteArray.size_append]; omega
        · rw [ByteArray.size_append, ByteArray.size_append]; omega
        · rw [ByteArray.size_append]; omega
      · rw [w64 (x := (i : Int) + 1) (by omega) (by omega), show (i : Int) + 1 = ((i + 1 : Nat) : Int) by omega]
        exact ih (i + 1) _ (by omega) (by rw [ByteArray.size_append]; omega)
    · exact ev_neg (by simp; omega) last_ev

theorem pure (l : List ByteArray) (hok : l.length * 16 ≤ 140737488351232 ∧ ∀ x ∈ l, x.size ≤ 140737488351232) : ∃ k, thresherlaw5_FrameBytes.f k l = some true := by
  obtain ⟨hl, hb⟩ := hok
  apply Ev.rounds
  obtain ⟨r, hr, h1, h2⟩ := weight_l0 l hb (by omega) l.length 0 l.length (by omega) (by omega)
  unfold thresherlaw5_FrameBytes.f
  have hw : Ev (fun k => thresherlaw5_heavy.f k l) (decide ((r : Int) > 9000)) := by
    unfold thresherlaw5_heavy.f thresherlaw0_TextWeight.f
    exact Ev.bind hr (ev_some rfl)
  refine Ev.bind hw ?_
  by_cases h : (r : Int) > 9000
  · exact ev_pos (by simpa using h) (ev_some rfl)
  · refine ev_neg (by simpa using h) ?_
    have ht : tot l ≤ 9000 := by
      rcases h2 with h2 | h2
      · omega
      · rw [List.drop_zero] at h2
        omega
    exact law_l0 l (fun x hx => Nat.le_trans (mem_tot l x hx) ht) l.length 0 _ (by omega) (by decide)
end Go.Proofs.Ytjnlmcpcdgfpkaa.FrameBytesPure
