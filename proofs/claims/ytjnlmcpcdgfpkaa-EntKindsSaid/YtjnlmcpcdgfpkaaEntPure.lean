/- What the printed functions of entries come to: the program's and the reference's alike. -/
import Derived.Test.YtjnlmcpcdgfpkaaQ2
import Derived.Test.YtjnlmcpcdgfpkaaQ3
import Derived.Test.YtjnlmcpcdgfpkaaQ9
import Derived.Test.YtjnlmcpcdgfpkaaQ8
import Derived.Test.YtjnlmcpcdgfpkaaQ10
import Derived.Test.YtjnlmcpcdgfpkaaNumPure
namespace Go.Proofs.Ytjnlmcpcdgfpkaa.EntPure
open Go Go.RowKit Go.Proofs.YtjnlmcpcdgfpkaaW.PrintWords Go.Proofs.YtjnlmcpcdgfpkaaW.PrintMore Go.Proofs.Ytjnlmcpcdgfpkaa.Num7 Go.Proofs.Ytjnlmcpcdgfpkaa.Bits7 Go.Proofs.Ytjnlmcpcdgfpkaa.NumPure Go.Proofs.Ytjnlmcpcdgfpkaa.Q

theorem ite_to {α : Type} {c : Prop} [Decidable c] {a b r : α} (h1 : c → a = r) (h2 : ¬ c → b = r) : (if c then a else b) = r := by
  by_cases h : c
  · rw [if_pos h]
    exact h1 h
  · rw [if_neg h]
    exact h2 h
/-- May an entry be? -/
def entOk (K J S C : Int) (D : ByteArray) : Prop :=
  1 ≤ K ∧ K ≤ 5 ∧ 1 ≤ J ∧ J ≤ 1048576 ∧ ((K = 2 ∧ 1 ≤ S ∧ S ≤ 1048576) ∨ (¬ K = 2 ∧ S = 0)) ∧ (((K = 3 ∨ K = 5) ∧ 1 ≤ C ∧ C ≤ 64) ∨ (¬ K = 3 ∧ ¬ K = 5 ∧ C = 0)) ∧ D.size ≤ 32704 ∧ (D.toList = [] ∨ K = 1 ∨ K = 2 ∨ (K = 3 ∧ C = 1))
instance (K J S C : Int) (D : ByteArray) : Decidable (entOk K J S C D) := by unfold entOk; infer_instance

theorem within_eq (a b c : Int) : ent_within.f a b c = some (decide (b ≤ a ∧ a ≤ c)) := by
  unfold ent_within.f
  by_cases h : a ≥ b
  · rw [if_pos h]
    congr 1
    simp
    omega
  · rw [if_neg h]
    congr 1
    simp
    omega
theorem only_eq (h : Bool) (a c : Int) : ent_only.f h a c = some (if h = true then decide (1 ≤ a ∧ a ≤ c) else decide (a = 0)) := by
  unfold ent_only.f
  rw [within_eq]
  cases h
  · simp
    rfl
  · simp
theorem data_eq (K J S C : Int) (D : ByteArray) : ent_data.f K J S C D = some (decide (K = 1 ∨ K = 2 ∨ (K = 3 ∧ C = 1))) := by
  unfold ent_data.f
  rw [within_eq]
  simp only [Option.bind_some]
  by_cases h : 1 ≤ K ∧ K ≤ 2
  · rw [if_pos (by simpa using h)]
    congr 1
    simp
    omega
  · rw [if_neg (by simpa using h)]
    by_cases h3 : K = 3
    · rw [if_pos h3]
      congr 1
      subst h3
      simp
      rfl
    · rw [if_neg h3]
      congr 1
      simp
      omega
set_option maxHeartbeats 4000000 in
theorem check_ev (K J S C : Int) (D : ByteArray) : Ev (fun k => ent_Check.f k K J S C D) (if entOk K J S C D then 0 else 1) := by
  refine ⟨2, fun k hk => ?_⟩
  obtain ⟨m, rfl⟩ : ∃ m, k = m + 2 := ⟨k - 2, by omega⟩
  simp only [ent_Check.f, ent_Check.j0, ent_Check.j1, within_eq, only_eq, data_eq, Option.bind_some]
  clear hk
  by_cases hP : entOk K J S C D
  all_goals first | rw [if_pos hP] | rw [if_neg hP]
  all_goals unfold entOk at hP
  all_goals by_cases hD : D.toList = []
  all_goals simp only [hD, true_or, and_true, false_or, if_true, if_false] at hP ⊢
  all_goals repeat' split
  all_goals simp only [decide_eq_true_eq, beq_iff_eq, Bool.false_eq_true, not_false_eq_true] at *
  all_goals first
    | rfl
    | (exfalso; omega)
set_option maxHeartbeats 4000000 in
theorem entry_ev (K J S C : Int) (D : ByteArray) : Ev (fun k => thresherref15_Entry.f k K J S C D) (decide (entOk K J S C D)) := by
  refine ⟨1, fun k hk => ?_⟩
  obtain ⟨m, rfl⟩ : ∃ m, k = m + 1 := ⟨k - 1, by omega⟩
  have hid : ∀ n : Int, thresherref0_ID.f n = some (decide (1 ≤ n ∧ n ≤ 1048576)) := by
    intro n
    unfold thresherref0_ID.f
    by_cases h : n ≥ 1
    · rw [if_pos h]
      congr 1
      simp
      omega
    · rw [if_neg h]
      congr 1
      simp
      omega
  simp only [thresherref15_Entry.f, thresherref15_Entry.j0, hid, Option.bind_some, decide_eq_true_eq, reduceIte]
  clear hk hid
  have hb : (D.toList == ([] : List UInt8)) = true ↔ D.toList = [] := beq_iff_eq
  generalize (D.toList == ([] : List UInt8)) = b at hb ⊢
  by_cases hP : entOk K J S C D
  · rw [decide_eq_true hP]
    unfold entOk at hP
    rw [← hb] at hP
    clear hb
    cases b
    all_goals simp only [Bool.false_eq_true, false_or, true_or, and_true] at hP
    all_goals repeat' refine ite_to (fun _ => ?_) (fun _ => ?_)
    all_goals first
      | rfl
      | contradiction
      | (exfalso; omega)
  · rw [decide_eq_false hP]
    unfold entOk at hP
    rw [← hb] at hP
    clear hb
    cases b
    all_goals simp only [Bool.false_eq_true, false_or, true_or, and_true] at hP
    all_goals repeat' refine ite_to (fun _ => ?_) (fun _ => ?_)
    all_goals first
      | rfl
      | contradiction
      | (exfalso; omega)

/-! ### bytes -/
def entBytes (K J S C : Int) (D : ByteArray) : ByteArray := (((nb K ++ nb J) ++ nb S) ++ nb C) ++ D
theorem rnum_ev (n : Int) (h1 : -9223372036854775808 ≤ n) (h2 : n ≤ 9223372036854775807) : Ev (fun k => thresherref15_num.f k n) (nb n) := by
  unfold thresherref15_num.f
  exact Ev.bind (ref_Bytes_ev n h1 h2) (ev_some rfl)
theorem empty_append (s : ByteArray) : (⟨#[]⟩ : ByteArray) ++ s = s := ByteArray.empty_append
theorem row_l0 (l : List Int) (hl : ∀ n ∈ l, -9223372036854775808 ≤ n ∧ n ≤ 9223372036854775807) (hlen : l.length ≤ 9223372036854775806) (d : Nat) : ∀ (i : Nat) (s : ByteArray), i + d = l.length → s.size + 10 * d ≤ 9223372036854775807 → Ev (fun k => num_Row_int.l0 k s l (l.length : Int) (i : Int)) ((l.drop i).foldl (fun a n => a ++ nb n) s) := by
  induction d with
  | zero =>
    intro i s hd hs
    refine Ev.step (fun k => by rw [num_Row_int.l0]) (ev_neg (by omega) (ev_some ?_))
    rw [List.drop_eq_nil_of_le (by omega)]
    rfl
  | succ d ih =>
    intro i s hd hs
    have hi : i < l.length := by omega
    have he : rd l (i : Int) = l[i] := by
      unfold rd
      rw [Int.toNat_natCast, List.getD_eq_getElem?_getD, List.getElem?_eq_getElem hi]
      rfl
    have hr := hl _ (List.getElem_mem hi)
    have hsz := nb_size l[i] hr.1 hr.2
    refine Ev.step (fun k => by rw [num_Row_int.l0]) (ev_pos (by omega) (ev_pos (by omega) (ev_pos (by omega) ?_)))
    rw [he]
    refine Ev.bind (num_Bytes_ev _ hr.1 hr.2) (ev_pos (by omega) ?_)
    rw [w64 (x := (i : Int) + 1) (by omega) (by omega), show (i : Int) + 1 = ((i + 1 : Nat) : Int) by omega, List.drop_eq_getElem_cons hi]
    exact ih (i + 1) _ (by omega) (by rw [ByteArray.size_append]; omega)
theorem row_ev (l : List Int) (hl : ∀ n ∈ l, -9223372036854775808 ≤ n ∧ n ≤ 9223372036854775807) (hlen : l.length ≤ 100000000) : Ev (fun k => num_Row_int.f k l) (l.foldl (fun a n => a ++ nb n) ⟨#[]⟩) := by
  unfold num_Row_int.f
  exact row_l0 l hl (by omega) l.length 0 _ (by omega) (by show 0 + _ ≤ _; omega)
theorem entOk_range {K J S C : Int} {D : ByteArray} (h : entOk K J S C D) : (0 ≤ K ∧ K ≤ 1048576) ∧ (0 ≤ J ∧ J ≤ 1048576) ∧ (0 ≤ S ∧ S ≤ 1048576) ∧ (0 ≤ C ∧ C ≤ 1048576) ∧ D.size ≤ 32704 := by
  unfold entOk at h
  omega
theorem ent_Bytes_ok (K J S C : Int) (D : ByteArray) (h : entOk K J S C D) : Ev (fun k => ent_Bytes.f k K J S C D) (entBytes K J S C D, 0) := by
  obtain ⟨hK, hJ, hS, hC, hD⟩ := entOk_range h
  have a1 := nb_size K (by omega) (by omega)
  have a2 := nb_size J (by omega) (by omega)
  have a3 := nb_size S (by omega) (by omega)
  have a4 := nb_size C (by omega) (by omega)
  unfold ent_Bytes.f
  have hc := check_ev K J S C D
  rw [if_pos h] at hc
  refine Ev.bind hc (ev_pos rfl (Ev.bind (row_ev [K, J, S, C] (by intro n hn; simp at hn; omega) (by simp)) (ev_pos ?_ (ev_some ?_))))
  · simp only [List.foldl_cons, List.foldl_nil, empty_append, ByteArray.size_append]
    omega
  · simp only [List.foldl_cons, List.foldl_nil, empty_append]
    rfl
theorem ent_Bytes_bad (K J S C : Int) (D : ByteArray) (h : ¬ entOk K J S C D) : Ev (fun k => ent_Bytes.f k K J S C D) (⟨#[]⟩, 1) := by
  unfold ent_Bytes.f
  have hc := check_ev K J S C D
  rw [if_neg h] at hc
  exact Ev.bind hc (ev_neg (by decide) (ev_some rfl))
theorem ref_EntBytes_ev (K J S C : Int) (D : ByteArray) (h : entOk K J S C D) : Ev (fun k => thresherref15_EntBytes.f k K J S C D) (entBytes K J S C D) := by
  obtain ⟨hK, hJ, hS, hC, hD⟩ := entOk_range h
  have a1 := nb_size K (by omega) (by omega)
  have a2 := nb_size J (by omega) (by omega)
  have a3 := nb_size S (by omega) (by omega)
  have a4 := nb_size C (by omega) (by omega)
  unfold thresherref15_EntBytes.f
  exact Ev.bind (rnum_ev K (by omega) (by omega)) (Ev.bind (rnum_ev J (by omega) (by omega)) (ev_pos (by omega) (Ev.bind (rnum_ev S (by omega) (by omega)) (ev_pos (by omega) (Ev.bind (rnum_ev C (by omega) (by omega)) (ev_pos (by omega) (ev_pos (by omega) (ev_some rfl))))))))

/-! ### which entry a text is -/
def goS : Nat → ByteArray → List Int → List Int × ByteArray × Int
  | 0, s, l => (l, s, 0)
  | m + 1, s, l => if (dec 0 0 s.data.toList).2.2 = 0 then goS m (s.extract (dec 0 0 s.data.toList).2.1.toNat s.size) (l ++ [(dec 0 0 s.data.toList).1]) else ([], s, (dec 0 0 s.data.toList).2.2)
def takeE (s : ByteArray) : Int × Int × Int × Int × ByteArray × Int :=
  if (goS 4 s []).2.2 = 0 then (if entOk (rd (goS 4 s []).1 0) (rd (goS 4 s []).1 1) (rd (goS 4 s []).1 2) (rd (goS 4 s []).1 3) (goS 4 s []).2.1 then (rd (goS 4 s []).1 0, rd (goS 4 s []).1 1, rd (goS 4 s []).1 2, rd (goS 4 s []).1 3, (goS 4 s []).2.1, 0) else (0, 0, 0, 0, ⟨#[]⟩, 7)) else (0, 0, 0, 0, ⟨#[]⟩, (goS 4 s []).2.2)
theorem go_ev (m : Nat) : ∀ (s : ByteArray) (l : List Int), Ev (fun k => ent_Take.go k m s l) (goS m s l) := by
  induction m with
  | zero => intro s l; exact ev_some rfl
  | succ m ih =>
    intro s l
    unfold goS
    refine Ev.congr (f := fun k => _) (fun k => by rw [ent_Take.go]) (Ev.bind (num_Take_ev s) ?_)
    by_cases h : (dec 0 0 s.data.toList).2.2 = 0
    · rw [if_pos h]
      have hw := dec_within s.data.toList 0 0 h
      rw [data_length] at hw
      exact ev_pos h (ev_pos (by omega) (ev_pos (by omega) (ih _ _)))
    · rw [if_neg h]
      exact ev_neg h (ev_some rfl)
theorem rgo_ev (m : Nat) : ∀ (s : ByteArray) (l : List Int), Ev (fun k => thresherref15_TakeEnt.go k m s l) (goS m s l) := by
  induction m with
  | zero => intro s l; exact ev_some rfl
  | succ m ih =>
    intro s l
    unfold goS
    refine Ev.congr (f := fun k => _) (fun k => by rw [thresherref15_TakeEnt.go]) (Ev.bind (ref_Take_ev s) ?_)
    by_cases h : (dec 0 0 s.data.toList).2.2 = 0
    · rw [if_pos h]
      have hw := dec_within s.data.toList 0 0 h
      rw [data_length] at hw
      exact ev_pos h (ev_pos (by omega) (ev_pos (by omega) (ih _ _)))
    · rw [if_neg h]
      exact ev_neg h (ev_some rfl)
theorem ent_Take_ev (s : ByteArray) : Ev (fun k => ent_Take.f k s) (takeE s) := by
  unfold ent_Take.f takeE
  refine Ev.bind (go_ev 4 s []) ?_
  by_cases h : (goS 4 s []).2.2 = 0
  · rw [if_pos h]
    refine ev_pos h ?_
    have hc := check_ev (rd (goS 4 s []).1 0) (rd (goS 4 s []).1 1) (rd (goS 4 s []).1 2) (rd (goS 4 s []).1 3) (goS 4 s []).2.1
    by_cases ho : entOk (rd (goS 4 s []).1 0) (rd (goS 4 s []).1 1) (rd (goS 4 s []).1 2) (rd (goS 4 s []).1 3) (goS 4 s []).2.1
    · rw [if_pos ho] at hc ⊢
      exact Ev.bind hc (ev_pos rfl (ev_some rfl))
    · rw [if_neg ho] at hc ⊢
      exact Ev.bind hc (ev_neg (by decide) (ev_some rfl))
  · rw [if_neg h]
    exact ev_neg h (ev_some rfl)
theorem ref_TakeEnt_ev (s : ByteArray) : Ev (fun k => thresherref15_TakeEnt.f k s) (takeE s) := by
  unfold thresherref15_TakeEnt.f takeE
  refine Ev.bind (rgo_ev 4 s []) ?_
  by_cases h : (goS 4 s []).2.2 = 0
  · rw [if_pos h]
    refine ev_pos h (Ev.bind (entry_ev _ _ _ _ _) ?_)
    by_cases ho : entOk (rd (goS 4 s []).1 0) (rd (goS 4 s []).1 1) (rd (goS 4 s []).1 2) (rd (goS 4 s []).1 3) (goS 4 s []).2.1
    · rw [if_pos ho]
      exact ev_pos (decide_eq_true ho) (ev_some rfl)
    · rw [if_neg ho]
      exact ev_neg (by simpa using ho) (ev_some rfl)
  · rw [if_neg h]
    exact ev_neg h (ev_some rfl)

theorem nb_small (n : Nat) (h : n < 64) : (nb (n : Int)).size = 1 := by
  have e : zig (n : Int) = 2 * n := by
    unfold zig
    rw [if_pos (by omega)]
    omega
  have e2 : enc7 (2 * n) = [UInt8.ofNat (2 * n)] := by
    rw [enc7, if_pos (by omega)]
  show (enc7 (zig (n : Int))).toArray.size = 1
  rw [e, e2]
  rfl
theorem empty_toList : (⟨#[]⟩ : ByteArray).toList = [] := ByteArray.toList_eq _
theorem wakes_ev : Ev (fun k => thresherlaw16_wakes.f k) true := by
  unfold thresherlaw16_wakes.f
  have hok : entOk 4 1 0 0 ⟨#[]⟩ := ⟨by omega, by omega, by omega, by omega, .inr ⟨by omega, rfl⟩, .inr ⟨by omega, by omega, rfl⟩, by decide, .inl empty_toList⟩
  refine Ev.bind (ent_Bytes_ok 4 1 0 0 ⟨#[]⟩ hok) (ev_one (a := 0) rfl (ev_pos rfl (ev_some ?_)))
  have h4 := nb_small 4 (by omega)
  have h1 := nb_small 1 (by omega)
  have h0 := nb_small 0 (by omega)
  have hs : (entBytes 4 1 0 0 ⟨#[]⟩).size = 4 := by
    unfold entBytes
    simp only [ByteArray.size_append]
    have h4' : (nb 4).size = 1 := h4
    have h1' : (nb 1).size = 1 := h1
    have h0' : (nb 0).size = 1 := h0
    rw [h4', h1', h0']
    rfl
  simp only [hs]
  rfl
end Go.Proofs.Ytjnlmcpcdgfpkaa.EntPure
