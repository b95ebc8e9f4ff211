/- EntBytes over its printed functions: whatever entries and bytes are handed in, it tells true. -/
import Derived.Test.YtjnlmcpcdgfpkaaQ11
import Derived.Test.YtjnlmcpcdgfpkaaEntKindPure
set_option linter.unusedVariables false
namespace Go.Proofs.Ytjnlmcpcdgfpkaa.EntBytesPure
open Go Go.RowKit Go.Proofs.YtjnlmcpcdgfpkaaW.PrintWords Go.Proofs.YtjnlmcpcdgfpkaaW.PrintMore Go.Proofs.Ytjnlmcpcdgfpkaa.Num7 Go.Proofs.Ytjnlmcpcdgfpkaa.Bits7 Go.Proofs.Ytjnlmcpcdgfpkaa.NumPure Go.Proofs.Ytjnlmcpcdgfpkaa.EntPure Go.Proofs.Ytjnlmcpcdgfpkaa.EntKindPure Go.Proofs.Ytjnlmcpcdgfpkaa.Q Go.Proofs.Ytjnlmcpcdgfpkaa.QOk

theorem goS_nb (m : Nat) (n : Int) (r : ByteArray) (l : List Int) (h1 : -9223372036854775808 ≤ n) (h2 : n ≤ 9223372036854775807) : goS (m + 1) (nb n ++ r) l = goS m r (l ++ [n]) := by
  have e := dec_nb n r.data.toList h1 h2
  have e2 : (nb n ++ r).data.toList = (nb n).data.toList ++ r.data.toList := by rw [ByteArray.data_append, Array.toList_append]
  rw [goS, e2, e, if_pos rfl]
  simp only [Int.toNat_natCast]
  rw [ByteArray.extract_append_eq_right rfl ByteArray.size_append]
theorem takeE_back {K J S C : Int} {D : ByteArray} (h : entOk K J S C D) : takeE (entBytes K J S C D) = (K, J, S, C, D, 0) := by
  obtain ⟨hK, hJ, hS, hC, hD⟩ := entOk_range h
  have eg : goS 4 (entBytes K J S C D) [] = ([K, J, S, C], D, 0) := by
    unfold entBytes
    simp only [ByteArray.append_assoc]
    rw [goS_nb _ _ _ _ (by omega) (by omega), goS_nb _ _ _ _ (by omega) (by omega), goS_nb _ _ _ _ (by omega) (by omega), goS_nb _ _ _ _ (by omega) (by omega)]
    rfl
  unfold takeE
  rw [eg]
  simp only
  rw [if_pos trivial]
  exact if_pos h
theorem bytes_size {K J S C : Int} {D : ByteArray} (h : entOk K J S C D) : (entBytes K J S C D).size ≤ 32744 := by
  obtain ⟨hK, hJ, hS, hC, hD⟩ := entOk_range h
  have a1 := nb_size K (by omega) (by omega)
  have a2 := nb_size J (by omega) (by omega)
  have a3 := nb_size S (by omega) (by omega)
  have a4 := nb_size C (by omega) (by omega)
  simp only [entBytes, ByteArray.size_append]
  omega
theorem same (t : Int × Int × Int × Int × ByteArray × Int) : ¬ ((!(t.1 == t.1) || (!(t.2.1 == t.2.1) || (!(t.2.2.1 == t.2.2.1) || (!(t.2.2.2.1 == t.2.2.2.1) || (!(t.2.2.2.2.1.toList == t.2.2.2.2.1.toList)))))) = true) := by
  simp
theorem l2_ev (l : List ByteArray) (hl : l.length ≤ 1000) (d : Nat) : ∀ i : Nat, i + d = l.length → Ev (fun k => thresherlaw16_EntBytes.l2 k l (i : Int)) true := by
  induction d with
  | zero =>
    intro i hd
    exact Ev.step (fun k => by rw [thresherlaw16_EntBytes.l2]) (ev_neg (by omega) (Ev.bind wakes_ev (ev_some rfl)))
  | succ d ih =>
    intro i hd
    refine Ev.step (fun k => by rw [thresherlaw16_EntBytes.l2]) (ev_pos (by omega) (ev_pos (by omega) (Ev.bind (ent_Take_ev (rdOf ByteArray.empty l (i : Int))) (Ev.bind (ref_TakeEnt_ev (rdOf ByteArray.empty l (i : Int))) (ev_neg (same _) ?_)))))
    refine ev_one (a := (takeE (rdOf ByteArray.empty l (i : Int))).2.2.2.2.2) rfl (ev_pos rfl ?_)
    rw [w64 (x := (i : Int) + 1) (by omega) (by omega), show (i : Int) + 1 = ((i + 1 : Nat) : Int) by omega]
    exact ih (i + 1) (by omega)
theorem l1_ev (r : Bool) (x4 : Int) (x5 : ByteArray) (x6 x7 : Int) (x8 : ByteArray) (h8 : x8.size ≤ 40000) (p : List S26) (q : ByteArray) (d : Nat) : ∀ (i : Nat) (l : List ByteArray), i + d = 10 → l.length + 2 * d ≤ 1000 → (∀ l', l'.length ≤ l.length + 2 * d → Ev (fun k => thresherlaw16_EntBytes.j4 k l' x4 x5 x6 x7 x8 p q) r) → Ev (fun k => thresherlaw16_EntBytes.l1 k l x4 x5 x6 x7 x8 (i : Int) p q) r := by
  induction d with
  | zero =>
    intro i l hd hl h
    refine Ev.step (fun k => by rw [thresherlaw16_EntBytes.l1]) ?_
    by_cases hi : (i : Int) < (x8.size : Int)
    · exact ev_pos hi (ev_neg (by omega) (h l (by omega)))
    · exact ev_neg hi (h l (by omega))
  | succ d ih =>
    intro i l hd hl h
    refine Ev.step (fun k => by rw [thresherlaw16_EntBytes.l1]) ?_
    by_cases hi : (i : Int) < (x8.size : Int)
    · refine ev_pos hi (ev_pos (by omega) (ev_pos (by omega) (ev_one rfl ?_)))
      refine ev_pos (by omega) (ev_pos (by rw [bytesOf_length]; exact hi) (ev_pos (by omega) (ev_one rfl ?_)))
      refine ev_pos (by simp; omega) ?_
      rw [w64 (x := (i : Int) + 1) (by omega) (by omega), show (i : Int) + 1 = ((i + 1 : Nat) : Int) by omega]
      exact ih (i + 1) _ (by omega) (by simp; omega) (fun l' hl' => h l' (by simp at hl'; omega))
    · exact ev_neg hi (h l (by omega))
theorem l0_ev (p : List S26) (q : ByteArray) (hp : p.length ≤ 12000) (d : Nat) : ∀ (i : Nat) (l : List ByteArray), i + d = p.length → (i ≤ 12 → l.length ≤ 1 + 20 * i) → (12 < i → l.length ≤ 1000) → i ≤ 12 → Ev (fun k => thresherlaw16_EntBytes.l0 k l (i : Int) p q) true := by
  have last : ∀ (l : List ByteArray) (i : Int), l.length ≤ 1000 → Ev (fun k => thresherlaw16_EntBytes.j1 k l i false p q) true := fun l i hl => by
    refine Ev.step (fun k => by rw [thresherlaw16_EntBytes.j1]) ?_
    exact ev_neg (by simp) (l2_ev l hl l.length 0 (by omega))
  induction d with
  | zero =>
    intro i l hd h1 h2 h3
    exact Ev.step (fun k => by rw [thresherlaw16_EntBytes.l0]) (ev_neg (by omega) (last _ _ (by have := h1 h3; omega)))
  | succ d ih =>
    intro i l hd h1 h2 h3
    have hl := h1 h3
    refine Ev.step (fun k => by rw [thresherlaw16_EntBytes.l0]) (ev_pos (by omega) ?_)
    by_cases h12 : (i : Int) < 12
    · rw [decide_eq_true h12]
      refine Ev.step (fun k => by rw [thresherlaw16_EntBytes.j1]) (ev_pos rfl (ev_pos (by omega) (ev_pos (by omega) ?_)))
      have next : ∀ l' : List ByteArray, l'.length ≤ 1 + 20 * (i + 1) → Ev (fun k => thresherlaw16_EntBytes.l0 k l' (wrap64 ((i : Int) + 1)) p q) true := by
        intro l' hl'
        rw [w64 (x := (i : Int) + 1) (by omega) (by omega), show (i : Int) + 1 = ((i + 1 : Nat) : Int) by omega]
        exact ih (i + 1) l' (by omega) (fun _ => hl') (fun _ => by omega) (by omega)
      have hc := check_ev (rd_T26 p (i : Int)).f0 (rd_T26 p (i : Int)).f1 (rd_T26 p (i : Int)).f2 (rd_T26 p (i : Int)).f3 (rd_T26 p (i : Int)).f4
      by_cases h : entOk (rd_T26 p (i : Int)).f0 (rd_T26 p (i : Int)).f1 (rd_T26 p (i : Int)).f2 (rd_T26 p (i : Int)).f3 (rd_T26 p (i : Int)).f4
      · rw [if_pos h] at hc
        refine Ev.bind (ent_Bytes_ok _ _ _ _ _ h) (Ev.bind (entry_ev _ _ _ _ _) (ev_pos (decide_eq_true h) (Ev.bind (ref_EntBytes_ev _ _ _ _ _ h) (Ev.bind (ent_Take_ev _) ?_))))
        rw [takeE_back h]
        refine ev_one (a := (0 : Int)) rfl (ev_pos rfl ?_)
        refine Ev.step (fun k => by rw [thresherlaw16_EntBytes.j2]) (ev_neg (by simp) ?_)
        refine l1_ev true _ _ _ _ _ (by have := bytes_size h; omega) p q 10 0 l (by omega) (by omega) (fun l' hl' => ?_)
        refine Ev.step (fun k => by rw [thresherlaw16_EntBytes.j4]) (ev_pos (by omega) (ev_pos (by omega) (Ev.bind hc ?_)))
        refine ev_one (a := (0 : Int)) rfl ?_
        refine ev_pos rfl ?_
        refine ev_one (a := (0 : Int)) rfl ?_
        exact ev_pos rfl (ev_pos rfl (next l' (by omega)))
      · rw [if_neg h] at hc
        refine Ev.bind (ent_Bytes_bad _ _ _ _ _ h) (Ev.bind (entry_ev _ _ _ _ _) (ev_neg (by simpa using h) ?_))
        refine Ev.step (fun k => by rw [thresherlaw16_EntBytes.j4]) (ev_pos (by omega) (ev_pos (by omega) (Ev.bind hc ?_)))
        refine ev_one (a := (1 : Int)) rfl ?_
        refine ev_pos rfl ?_
        refine ev_one (a := (1 : Int)) rfl ?_
        exact ev_pos rfl (ev_pos rfl (next l (by omega)))
    · rw [decide_eq_false h12]
      exact last _ _ (by omega)
theorem pure (x : S24) (hok : okS24 x) : ∃ k, thresherlaw16_EntBytes.f k x.f0 x.f1 = some true := by
  refine Ev.rounds ?_
  obtain ⟨⟨hl, hx⟩, hs⟩ := hok
  obtain ⟨b, hb, hn⟩ := heavy_ev x.f0 x.f1 (fun e he => (hx e he).2.2.2.2) (by omega)
  unfold thresherlaw16_EntBytes.f
  refine Ev.bind hb ?_
  by_cases h : b = true
  · exact ev_pos h (ev_some rfl)
  · exact ev_neg h (l0_ev x.f0 x.f1 (hn (by simpa using h)).1 x.f0.length 0 _ (by omega) (fun _ => by simp) (fun _ => by omega) (by omega))
end Go.Proofs.Ytjnlmcpcdgfpkaa.EntBytesPure
