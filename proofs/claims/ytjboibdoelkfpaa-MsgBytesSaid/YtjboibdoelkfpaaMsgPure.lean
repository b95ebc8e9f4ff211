/- What the printed functions of messages come to: the program's and the reference's alike. -/
import Derived.Test.YtjboibdoelkfpaaQ3
import Derived.Test.YtjboibdoelkfpaaQ7
import Derived.Test.YtjboibdoelkfpaaQ4
import Derived.Test.YtjboibdoelkfpaaQ5
import Derived.Test.YtjboibdoelkfpaaQ8
import Derived.Test.YtjboibdoelkfpaaQ6
import Derived.Test.YtjboibdoelkfpaaQ2
import Derived.Test.YtjboibdoelkfpaaFtakePure
set_option linter.unusedSimpArgs false
set_option linter.unusedVariables false
namespace Go.Proofs.Ytjboibdoelkfpaa.MsgPure
open Go Go.RowKit Go.Proofs.YtjboibdoelkfpaaW.PrintWords Go.Proofs.YtjboibdoelkfpaaW.PrintMore Go.Proofs.Ytjboibdoelkfpaa.Num7 Go.Proofs.Ytjboibdoelkfpaa.Bits7 Go.Proofs.Ytjboibdoelkfpaa.NumPure Go.Proofs.Ytjboibdoelkfpaa.FtakePure Go.Proofs.Ytjboibdoelkfpaa.Q

theorem ite_to {α : Type} {c : Prop} [Decidable c] {a b r : α} (h1 : c → a = r) (h2 : ¬ c → b = r) : (if c then a else b) = r := by
  by_cases h : c
  · rw [if_pos h]
    exact h1 h
  · rw [if_neg h]
    exact h2 h
theorem empty_toList : (⟨#[]⟩ : ByteArray).toList = [] := ByteArray.toList_eq _
/-- May a message be? (b: is there no data, z: how much) -/
def msgOk' (K F T J S E O L U C : Int) (b : Bool) (z : Nat) : Prop :=
  (1 ≤ K ∧ K ≤ 8) ∧ ((F = 0 ∧ 1 ≤ T ∧ T ≤ 3 ∧ (K = 1 ∨ K = 3 ∨ K = 5 ∨ K = 7)) ∨ (T = 0 ∧ 1 ≤ F ∧ F ≤ 3 ∧ (K = 2 ∨ K = 4 ∨ K = 6 ∨ K = 8))) ∧ (1 ≤ J ∧ J ≤ 1048576) ∧
  ((K ≤ 4 ∧ 1 ≤ S ∧ S ≤ 1048576 ∧ 1 ≤ E ∧ E ≤ 1048576) ∨ (4 < K ∧ S = 0 ∧ E = 0)) ∧
  ((K = 1 ∧ O = 0 ∧ L = 0 ∧ U = 0 ∧ C = 0 ∧ z ≤ 1024) ∨ (K = 2 ∧ C = 0 ∧ 0 ≤ L ∧ L ≤ 32768 ∧ 0 ≤ O ∧ O ≤ L ∧ z ≤ 48) ∨ (K = 3 ∧ 0 ≤ O ∧ O ≤ 32768 ∧ L = 0 ∧ U = 0 ∧ C = 0 ∧ b = true) ∨
   (K = 4 ∧ O = 0 ∧ L = 0 ∧ U = 0 ∧ 2 ≤ C ∧ C ≤ 64 ∧ b = true) ∨ (K = 7 ∧ O = 0 ∧ L = 0 ∧ U = 0 ∧ 1 ≤ C ∧ C ≤ 64 ∧ b = true) ∨ ((K = 5 ∨ K = 6 ∨ K = 8) ∧ O = 0 ∧ L = 0 ∧ U = 0 ∧ C = 0 ∧ b = true))
set_option synthInstance.maxSize 4000 in
set_option synthInstance.maxHeartbeats 400000 in
instance (K F T J S E O L U C : Int) (b : Bool) (z : Nat) : Decidable (msgOk' K F T J S E O L U C b z) := by unfold msgOk'; infer_instance
def msgOk (K F T J S E O L U C : Int) (D : ByteArray) : Prop := msgOk' K F T J S E O L U C (D.toList == ([] : List UInt8)) D.size
instance (K F T J S E O L U C : Int) (D : ByteArray) : Decidable (msgOk K F T J S E O L U C D) := by unfold msgOk; infer_instance
theorem ok_data {K F T J S E O L U C : Int} {D : ByteArray} (h : msgOk K F T J S E O L U C D) : D.size ≤ 1024 := by
  unfold msgOk msgOk' at h
  have hb : (D.toList == ([] : List UInt8)) = true → D.size = 0 := by
    intro e
    have e2 := beq_iff_eq.1 e
    rw [ByteArray.toList_eq] at e2
    rw [← data_length, e2]
    rfl
  generalize (D.toList == ([] : List UInt8)) = b at hb h
  cases b
  · simp only [Bool.false_eq_true, and_false, or_false] at h
    omega
  · have := hb rfl
    omega
theorem ok_range {K F T J S E O L U C : Int} {D : ByteArray} (h : msgOk K F T J S E O L U C D) (_ : 0 ≤ U ∧ U < 4294967296) : (0 ≤ K ∧ K ≤ 4294967295) ∧ (0 ≤ F ∧ F ≤ 4294967295) ∧ (0 ≤ T ∧ T ≤ 4294967295) ∧ (0 ≤ J ∧ J ≤ 4294967295) ∧ (0 ≤ S ∧ S ≤ 4294967295) ∧ (0 ≤ E ∧ E ≤ 4294967295) ∧ (0 ≤ O ∧ O ≤ 4294967295) ∧ (0 ≤ L ∧ L ≤ 4294967295) ∧ (0 ≤ C ∧ C ≤ 4294967295) := by
  unfold msgOk msgOk' at h
  generalize (D.toList == ([] : List UInt8)) = b at h
  omega

theorem within_eq (a b c : Int) : msg_within.f a b c = some (decide (b ≤ a ∧ a ≤ c)) := by
  unfold msg_within.f
  by_cases h : a ≥ b
  · rw [if_pos h]
    congr 1
    simp
    omega
  · rw [if_neg h]
    congr 1
    simp
    omega
theorem bool_to {p : Prop} [Decidable p] {b : Bool} (h : b = true ↔ p) : some b = some (decide p) := by
  congr 1
  by_cases hp : p
  · rw [decide_eq_true hp]; exact h.2 hp
  · rw [decide_eq_false hp]; exact Bool.eq_false_iff.2 fun hb => hp (h.1 hb)
theorem way_eq (F T : Int) : msg_Way.f F T = some (decide ((F = 0 ∧ 1 ≤ T ∧ T ≤ 3) ∨ (T = 0 ∧ 1 ≤ F ∧ F ≤ 3))) := by
  simp only [msg_Way.f, within_eq, Option.bind_some]
  repeat' refine ite_to (fun _ => ?_) (fun _ => ?_)
  all_goals try simp only [decide_eq_true_eq] at *
  all_goals first
    | (refine bool_to ?_; simp only [decide_eq_true_eq, Bool.false_eq_true, true_iff, false_iff]; omega)
theorem down_eq (K : Int) : msg_down.f K = some (decide (K = 1 ∨ K = 3 ∨ K = 5 ∨ K = 7)) := by
  simp only [msg_down.f]
  repeat' refine ite_to (fun _ => ?_) (fun _ => ?_)
  all_goals (refine bool_to ?_; simp only [beq_iff_eq, true_iff]; omega)
theorem some_to {p : Prop} {b : Bool} (h : b = true ↔ p) : ∃ q, some b = some q ∧ (q = true ↔ p) := ⟨b, rfl, h⟩
theorem ite_ex {p : Prop} {c : Prop} [Decidable c] {x y : Option Bool} (h1 : c → ∃ q, x = some q ∧ (q = true ↔ p)) (h2 : ¬ c → ∃ q, y = some q ∧ (q = true ↔ p)) : ∃ q, (if c then x else y) = some q ∧ (q = true ↔ p) := by
  by_cases h : c
  · rw [if_pos h]
    exact h1 h
  · rw [if_neg h]
    exact h2 h
theorem holds_eq (K F T J S E O L U C : Int) (D : ByteArray) : ∃ q, msg_holds.f K F T J S E O L U C D = some q ∧ (q = true ↔ (if K = 1 then O = 0 ∧ L = 0 ∧ U = 0 ∧ C = 0 ∧ D.size ≤ 1024 else if K = 2 then C = 0 ∧ 0 ≤ L ∧ L ≤ 32768 ∧ 0 ≤ O ∧ O ≤ L ∧ D.size ≤ 48 else if K = 3 then L = 0 ∧ U = 0 ∧ C = 0 ∧ (D.toList == ([] : List UInt8)) = true ∧ 0 ≤ O ∧ O ≤ 32768 else if K = 4 then O = 0 ∧ L = 0 ∧ U = 0 ∧ (D.toList == ([] : List UInt8)) = true ∧ 2 ≤ C ∧ C ≤ 64 else if K = 7 then O = 0 ∧ L = 0 ∧ U = 0 ∧ (D.toList == ([] : List UInt8)) = true ∧ 1 ≤ C ∧ C ≤ 64 else O = 0 ∧ L = 0 ∧ U = 0 ∧ C = 0 ∧ (D.toList == ([] : List UInt8)) = true)) := by
  simp only [msg_holds.f, within_eq, Option.bind_some]
  generalize (D.toList == ([] : List UInt8)) = b
  by_cases h1 : K = 1
  · simp only [if_pos h1]
    cases b
    all_goals repeat' refine ite_ex (fun _ => ?_) (fun _ => ?_)
    all_goals (try simp only [decide_eq_true_eq, Bool.and_eq_true, beq_iff_eq, Bool.false_eq_true, and_false, and_true, not_false_eq_true, false_and] at *)
    all_goals (refine some_to ?_; (try simp only [decide_eq_true_eq, Bool.false_eq_true, false_iff, and_false, true_and, false_and, not_false_eq_true]); (try omega))
  by_cases h2 : K = 2
  · simp only [if_neg h1, if_pos h2]
    cases b
    all_goals repeat' refine ite_ex (fun _ => ?_) (fun _ => ?_)
    all_goals (try simp only [decide_eq_true_eq, Bool.and_eq_true, beq_iff_eq, Bool.false_eq_true, and_false, and_true, not_false_eq_true, false_and] at *)
    all_goals (refine some_to ?_; (try simp only [decide_eq_true_eq, Bool.false_eq_true, false_iff, and_false, true_and, false_and, not_false_eq_true]); (try omega))
  by_cases h3 : K = 3
  · simp only [if_neg h1, if_neg h2, if_pos h3]
    cases b
    all_goals repeat' refine ite_ex (fun _ => ?_) (fun _ => ?_)
    all_goals (try simp only [decide_eq_true_eq, Bool.and_eq_true, beq_iff_eq, Bool.false_eq_true, and_false, and_true, not_false_eq_true, false_and] at *)
    all_goals (refine some_to ?_; (try simp only [decide_eq_true_eq, Bool.false_eq_true, false_iff, and_false, true_and, false_and, not_false_eq_true]); (try omega))
  by_cases h4 : K = 4
  · simp only [if_neg h1, if_neg h2, if_neg h3, if_pos h4]
    cases b
    all_goals repeat' refine ite_ex (fun _ => ?_) (fun _ => ?_)
    all_goals (try simp only [decide_eq_true_eq, Bool.and_eq_true, beq_iff_eq, Bool.false_eq_true, and_false, and_true, not_false_eq_true, false_and] at *)
    all_goals (refine some_to ?_; (try simp only [decide_eq_true_eq, Bool.false_eq_true, false_iff, and_false, true_and, false_and, not_false_eq_true]); (try omega))
  by_cases h7 : K = 7
  · simp only [if_neg h1, if_neg h2, if_neg h3, if_neg h4, if_pos h7]
    cases b
    all_goals repeat' refine ite_ex (fun _ => ?_) (fun _ => ?_)
    all_goals (try simp only [decide_eq_true_eq, Bool.and_eq_true, beq_iff_eq, Bool.false_eq_true, and_false, and_true, not_false_eq_true, false_and] at *)
    all_goals (refine some_to ?_; (try simp only [decide_eq_true_eq, Bool.false_eq_true, false_iff, and_false, true_and, false_and, not_false_eq_true]); (try omega))
  simp only [if_neg h1, if_neg h2, if_neg h3, if_neg h4, if_neg h7]
  refine some_to ?_
  simp only [Bool.and_eq_true, beq_iff_eq]
theorem about_ev (K F T J S E O L U C : Int) (D : ByteArray) : ∀ k, msg_about.f (k + 1) K F T J S E O L U C D = some (decide ((((F = 0 ∧ 1 ≤ T ∧ T ≤ 3 ∧ (K = 1 ∨ K = 3 ∨ K = 5 ∨ K = 7)) ∨ (T = 0 ∧ 1 ≤ F ∧ F ≤ 3 ∧ ¬ (K = 1 ∨ K = 3 ∨ K = 5 ∨ K = 7)))) ∧ (1 ≤ J ∧ J ≤ 1048576) ∧ ((4 < K ∧ S = 0 ∧ E = 0) ∨ (K ≤ 4 ∧ 1 ≤ S ∧ S ≤ 1048576 ∧ 1 ≤ E ∧ E ≤ 1048576)))) := by
  intro k
  simp only [msg_about.f, msg_about.j0, way_eq, down_eq, within_eq, Option.bind_some, Bool.not_eq_true', decide_eq_true_eq, decide_eq_false_iff_not, reduceIte]
  repeat' refine ite_to (fun _ => ?_) (fun _ => ?_)
  all_goals (refine bool_to ?_; simp only [decide_eq_true_eq, beq_iff_eq, Bool.false_eq_true, false_iff]; omega)
theorem check_ev (K F T J S E O L U C : Int) (D : ByteArray) : Ev (fun k => msg_Check.f k K F T J S E O L U C D) (if msgOk K F T J S E O L U C D then 0 else 1) := by
  refine ⟨1, fun k hk => ?_⟩
  obtain ⟨m, rfl⟩ : ∃ m, k = m + 1 := ⟨k - 1, by omega⟩
  obtain ⟨q, hq, hqi⟩ := holds_eq K F T J S E O L U C D
  simp only [msg_Check.f, within_eq, about_ev, hq, Option.bind_some, decide_eq_true_eq]
  clear hk hq
  by_cases hP : msgOk K F T J S E O L U C D
  · rw [if_pos hP]
    unfold msgOk msgOk' at hP
    generalize (D.toList == ([] : List UInt8)) = b at hP hqi
    obtain ⟨h1, hP⟩ := hP
    rw [if_pos h1]
    obtain hK | hK | hK | hK | hK | hK | hK | hK : K = 1 ∨ K = 2 ∨ K = 3 ∨ K = 4 ∨ K = 5 ∨ K = 6 ∨ K = 7 ∨ K = 8 := by omega
    all_goals subst hK
    all_goals simp only [Int.reduceEq, reduceIte, Int.reduceLE, Int.reduceLT, false_and, true_and, and_true, false_or, or_false, or_true, and_false, true_or, not_false_eq_true, not_true_eq_false] at hP hqi ⊢
    all_goals cases b
    all_goals (try simp only [Bool.false_eq_true, and_false, and_true, true_and, false_and, iff_false] at hP hqi)
    all_goals repeat' refine ite_to (fun _ => ?_) (fun _ => ?_)
    all_goals first
      | rfl
      | (exfalso; omega)
      | (exfalso; rename_i hn; exact hn (hqi.2 (by omega)))
  · rw [if_neg hP]
    unfold msgOk msgOk' at hP
    generalize (D.toList == ([] : List UInt8)) = b at hP hqi
    by_cases h1 : 1 ≤ K ∧ K ≤ 8
    case neg => rw [if_neg h1]
    rw [if_pos h1]
    obtain hK | hK | hK | hK | hK | hK | hK | hK : K = 1 ∨ K = 2 ∨ K = 3 ∨ K = 4 ∨ K = 5 ∨ K = 6 ∨ K = 7 ∨ K = 8 := by omega
    all_goals subst hK
    all_goals simp only [Int.reduceEq, reduceIte, Int.reduceLE, Int.reduceLT, false_and, true_and, and_true, false_or, or_false, or_true, and_false, true_or, not_false_eq_true, not_true_eq_false] at hP hqi ⊢
    all_goals cases b
    all_goals (try simp only [Bool.false_eq_true, and_false, and_true, true_and, false_and, iff_false, false_or, or_false] at hP hqi)
    all_goals repeat' refine ite_to (fun _ => ?_) (fun _ => ?_)
    all_goals first
      | rfl
      | contradiction
      | (exfalso; omega)
      | (exfalso; rename_i hn; have := hqi.1 hn; omega)
theorem msg_ev (K F T J S E O L U C : Int) (D : ByteArray) : Ev (fun k => thresherref15_Msg.f k K F T J S E O L U C D) (decide (msgOk K F T J S E O L U C D)) :=
  show Ev (fun _ => some (decide (MsgRef.mrOk K F T J S E O L U C D))) _ from ev_some (decide_eq_decide.2 Iff.rfl)

/-! ### bytes -/
def body (K F T J S E O L U C : Int) (D : ByteArray) : ByteArray := (((((((((nb K ++ nb F) ++ nb T) ++ nb J) ++ nb S) ++ nb E) ++ nb O) ++ nb L) ++ nb U) ++ nb C) ++ D
theorem rnum_ev (n : Int) (h1 : -9223372036854775808 ≤ n) (h2 : n ≤ 9223372036854775807) : Ev (fun k => thresherref15_num.f k n) (nb n) := by
  unfold thresherref15_num.f
  exact Ev.bind (ref_Bytes_ev n h1 h2) (ev_some rfl)
theorem empty_append (s : ByteArray) : (⟨#[]⟩ : ByteArray) ++ s = s := ByteArray.empty_append
theorem row_l0 (l : List Int) (hl : ∀ n ∈ l, -9223372036854775808 ≤ n ∧ n ≤ 9223372036854775807) (hlen : l.length ≤ 9223372036854775806) (d : Nat) : ∀ (i : Nat) (s : ByteArray), i + d = l.length → s.size + 10 * d ≤ 9223372036854775807 → Ev (fun k => num_Row_int.l0 k s l (l.length : Int) (i : Int)) ((l.drop i).foldl (fun a n => a ++ nb n) s) := by
  induction d with
  | zero =>
    intro i s hd hs
    refine Ev.step (fun k => by rw [num_Row_int.l0]) (ev_neg (by omega) (ev_some ?_))
    rw [List.drop_eq_nil_of_le (by omega)]
    rfl
  | succ d ih =>
    intro i s hd hs
    have hi : i < l.length := by omega
    have he : rd l (i : Int) = l[i] := by
      unfold rd
      rw [Int.toNat_natCast, List.getD_eq_getElem?_getD, List.getElem?_eq_getElem hi]
      rfl
    have hr := hl _ (List.getElem_mem hi)
    have hsz := nb_size l[i] hr.1 hr.2
    refine Ev.step (fun k => by rw [num_Row_int.l0]) (ev_pos (by omega) (ev_pos (by omega) (ev_pos (by omega) ?_)))
    rw [he]
    refine Ev.bind (num_Bytes_ev _ hr.1 hr.2) (ev_pos (by omega) ?_)
    rw [w64 (x := (i : Int) + 1) (by omega) (by omega), show (i : Int) + 1 = ((i + 1 : Nat) : Int) by omega, List.drop_eq_getElem_cons hi]
    exact ih (i + 1) _ (by omega) (by rw [ByteArray.size_append]; omega)
theorem row_ev (l : List Int) (hl : ∀ n ∈ l, -9223372036854775808 ≤ n ∧ n ≤ 9223372036854775807) (hlen : l.length ≤ 100000000) : Ev (fun k => num_Row_int.f k l) (l.foldl (fun a n => a ++ nb n) ⟨#[]⟩) := by
  unfold num_Row_int.f
  exact row_l0 l hl (by omega) l.length 0 _ (by omega) (by show 0 + _ ≤ _; omega)
theorem rowu_ev (n : Int) (h1 : 0 ≤ n) (h2 : n < 4294967296) : Ev (fun k => num_Row_uint32.f k [n]) (nb n) := by
  have hs := nb_size n (by omega) (by omega)
  unfold num_Row_uint32.f
  refine Ev.step (fun k => by rw [num_Row_uint32.l0]) (ev_pos (by simp) (ev_pos (by omega) (ev_pos (by simp) ?_)))
  rw [show wrap64 (rd [n] 0) = n from w64 (x := n) (by omega) (by omega)]
  refine Ev.bind (num_Bytes_ev n (by omega) (by omega)) (ev_pos ?_ ?_)
  · show 0 + _ ≤ _
    omega
  · rw [empty_append, w64 (x := (0 : Int) + 1) (by omega) (by omega)]
    exact Ev.step (fun k => by rw [num_Row_uint32.l0]) (ev_neg (by simp) (ev_some rfl))
theorem body_size {K F T J S E O L U C : Int} {D : ByteArray} (h : msgOk K F T J S E O L U C D) (hU : 0 ≤ U ∧ U < 4294967296) : (body K F T J S E O L U C D).size ≤ 1124 := by
  obtain ⟨hK, hF, hT, hJ, hS, hE, hO, hL, hC⟩ := ok_range h hU
  have hD := ok_data h
  have a1 := nb_size K (by omega) (by omega)
  have a2 := nb_size F (by omega) (by omega)
  have a3 := nb_size T (by omega) (by omega)
  have a4 := nb_size J (by omega) (by omega)
  have a5 := nb_size S (by omega) (by omega)
  have a6 := nb_size E (by omega) (by omega)
  have a7 := nb_size O (by omega) (by omega)
  have a8 := nb_size L (by omega) (by omega)
  have a9 := nb_size U (by omega) (by omega)
  have a10 := nb_size C (by omega) (by omega)
  simp only [body, ByteArray.size_append]
  omega
theorem msg_Bytes_ok (K F T J S E O L U C : Int) (D : ByteArray) (h : msgOk K F T J S E O L U C D) (hU : 0 ≤ U ∧ U < 4294967296) : Ev (fun k => msg_Bytes.f k K F T J S E O L U C D) (frame (body K F T J S E O L U C D), 0) := by
  have hb := body_size h hU
  obtain ⟨hK, hF, hT, hJ, hS, hE, hO, hL, hC⟩ := ok_range h hU
  have hc := check_ev K F T J S E O L U C D
  rw [if_pos h] at hc
  have e1 : [K, F, T, J, S, E, O, L].foldl (fun a n => a ++ nb n) (⟨#[]⟩ : ByteArray) = ((((((nb K ++ nb F) ++ nb T) ++ nb J) ++ nb S) ++ nb E) ++ nb O) ++ nb L := by
    simp only [List.foldl_cons, List.foldl_nil, empty_append]
  have e2 : [C].foldl (fun a n => a ++ nb n) (⟨#[]⟩ : ByteArray) = nb C := by
    simp only [List.foldl_cons, List.foldl_nil, empty_append]
  have r1 := row_ev [K, F, T, J, S, E, O, L] (by intro n hn; simp at hn; omega) (by simp)
  have r2 := row_ev [C] (by intro n hn; simp at hn; omega) (by simp)
  rw [e1] at r1
  rw [e2] at r2
  unfold body at hb ⊢
  generalize ((((((nb K ++ nb F) ++ nb T) ++ nb J) ++ nb S) ++ nb E) ++ nb O) ++ nb L = X at r1 hb ⊢
  simp only [ByteArray.size_append] at hb
  unfold msg_Bytes.f
  refine Ev.bind hc (ev_pos rfl (Ev.bind r1 (Ev.bind (rowu_ev U hU.1 hU.2) (ev_pos (by omega) (Ev.bind r2 (ev_pos (by omega) (ev_pos (by omega) (Ev.bind (frame_Bytes_ev _ ?_) (ev_some rfl)))))))))
  simp only [ByteArray.size_append]
  omega
theorem msg_Bytes_bad (K F T J S E O L U C : Int) (D : ByteArray) (h : ¬ msgOk K F T J S E O L U C D) : Ev (fun k => msg_Bytes.f k K F T J S E O L U C D) (⟨#[]⟩, 1) := by
  unfold msg_Bytes.f
  have hc := check_ev K F T J S E O L U C D
  rw [if_neg h] at hc
  exact Ev.bind hc (ev_neg (by decide) (ev_some rfl))
theorem ref_Bytes_ok (K F T J S E O L U C : Int) (D : ByteArray) (h : msgOk K F T J S E O L U C D) (hU : 0 ≤ U ∧ U < 4294967296) : Ev (fun k => thresherref15_Bytes.f k K F T J S E O L U C D) (frame (body K F T J S E O L U C D)) := by
  have hb := body_size h hU
  obtain ⟨hK, hF, hT, hJ, hS, hE, hO, hL, hC⟩ := ok_range h hU
  unfold thresherref15_Bytes.f
  unfold body at hb ⊢
  simp only [ByteArray.size_append] at hb
  refine Ev.bind (rnum_ev K (by omega) (by omega)) (Ev.bind (rnum_ev F (by omega) (by omega)) (ev_pos (by omega) (Ev.bind (rnum_ev T (by omega) (by omega)) (ev_pos (by omega) (Ev.bind (rnum_ev J (by omega) (by omega)) (ev_pos (by omega) ?_))))))
  refine Ev.bind (rnum_ev S (by omega) (by omega)) (ev_pos (by omega) (Ev.bind (rnum_ev E (by omega) (by omega)) (ev_pos (by omega) (Ev.bind (rnum_ev O (by omega) (by omega)) (ev_pos (by omega) (Ev.bind (rnum_ev L (by omega) (by omega)) (ev_pos (by omega) ?_)))))))
  rw [w64 (x := U) (by omega) (by omega)]
  refine Ev.bind (ref_Bytes_ev U (by omega) (by omega)) (ev_pos (by omega) (Ev.bind (rnum_ev C (by omega) (by omega)) (ev_pos (by omega) (ev_pos (by omega) (Ev.bind (ref_Frame_ev _ ?_) (ev_some rfl))))))
  simp only [ByteArray.size_append]
  omega

/-! ### which message a text is -/
def goS : Nat → ByteArray → List Int → List Int × ByteArray × Int
  | 0, s, l => (l, s, 0)
  | m + 1, s, l => if (dec 0 0 s.data.toList).2.2 = 0 then goS m (s.extract (dec 0 0 s.data.toList).2.1.toNat s.size) (l ++ [(dec 0 0 s.data.toList).1]) else ([], s, (dec 0 0 s.data.toList).2.2)
def bad (e : Int) : Int × Int × Int × Int × Int × Int × Int × Int × Int × Int × ByteArray × Int := (0, 0, 0, 0, 0, 0, 0, 0, 0, 0, ⟨#[]⟩, e)
def finM (l : List Int) (D : ByteArray) : Int × Int × Int × Int × Int × Int × Int × Int × Int × Int × ByteArray × Int :=
  if (0 ≤ rd l 8 ∧ rd l 8 < 4294967296) ∧ msgOk (rd l 0) (rd l 1) (rd l 2) (rd l 3) (rd l 4) (rd l 5) (rd l 6) (rd l 7) (rd l 8) (rd l 9) D then (rd l 0, rd l 1, rd l 2, rd l 3, rd l 4, rd l 5, rd l 6, rd l 7, rd l 8, rd l 9, D, 0) else bad 7
def takeM (s : ByteArray) : Int × Int × Int × Int × Int × Int × Int × Int × Int × Int × ByteArray × Int :=
  if (takeF s).2.2 = 0 then (if (takeF s).2.1 < s.size then bad 7 else if (goS 10 (takeF s).1 []).2.2 = 0 then finM (goS 10 (takeF s).1 []).1 (goS 10 (takeF s).1 []).2.1 else bad (goS 10 (takeF s).1 []).2.2) else bad (takeF s).2.2
theorem go_ev (m : Nat) : ∀ (s : ByteArray) (l : List Int), Ev (fun k => msg_Take.go k m s l) (goS m s l) := by
  induction m with
  | zero => intro s l; exact ev_some rfl
  | succ m ih =>
    intro s l
    unfold goS
    refine Ev.congr (f := fun k => _) (fun k => by rw [msg_Take.go]) (Ev.bind (num_Take_ev s) ?_)
    by_cases h : (dec 0 0 s.data.toList).2.2 = 0
    · rw [if_pos h]
      have hw := dec_within s.data.toList 0 0 h
      rw [data_length] at hw
      exact ev_pos h (ev_pos (by omega) (ev_pos (by omega) (ih _ _)))
    · rw [if_neg h]
      exact ev_neg h (ev_some rfl)
theorem rgo_ev (m : Nat) : ∀ (s : ByteArray) (l : List Int), Ev (fun k => thresherref15_Take.go k m s l) (goS m s l) := by
  induction m with
  | zero => intro s l; exact ev_some rfl
  | succ m ih =>
    intro s l
    unfold goS
    refine Ev.congr (f := fun k => _) (fun k => by rw [thresherref15_Take.go]) (Ev.bind (ref_Take_ev s) ?_)
    by_cases h : (dec 0 0 s.data.toList).2.2 = 0
    · rw [if_pos h]
      have hw := dec_within s.data.toList 0 0 h
      rw [data_length] at hw
      exact ev_pos h (ev_pos (by omega) (ev_pos (by omega) (ih _ _)))
    · rw [if_neg h]
      exact ev_neg h (ev_some rfl)
theorem fin_ev (t : List Int × ByteArray × Int) : Ev (fun k => msg_Take.fin k t) (finM t.1 t.2.1) := by
  unfold msg_Take.fin finM
  by_cases h8 : 0 ≤ rd t.1 8 ∧ rd t.1 8 < 4294967296
  · have e8 : rd t.1 8 % 4294967296 = rd t.1 8 := by omega
    simp only [e8]
    refine ev_pos trivial ?_
    have hc := check_ev (rd t.1 0) (rd t.1 1) (rd t.1 2) (rd t.1 3) (rd t.1 4) (rd t.1 5) (rd t.1 6) (rd t.1 7) (rd t.1 8) (rd t.1 9) t.2.1
    by_cases ho : msgOk (rd t.1 0) (rd t.1 1) (rd t.1 2) (rd t.1 3) (rd t.1 4) (rd t.1 5) (rd t.1 6) (rd t.1 7) (rd t.1 8) (rd t.1 9) t.2.1
    · rw [if_pos ho] at hc
      exact Ev.bind hc (ev_pos rfl (ev_some (by rw [if_pos ⟨h8, ho⟩])))
    · rw [if_neg ho] at hc
      exact Ev.bind hc (ev_neg (by decide) (ev_some (by rw [if_neg (fun h => ho h.2)]; rfl)))
  · exact ev_neg (by omega) (ev_some (by rw [if_neg (fun h => h8 h.1)]; rfl))
theorem rfin_ev (t : List Int × ByteArray × Int) : Ev (fun k => thresherref15_Take.fin k t) (finM t.1 t.2.1) := by
  unfold thresherref15_Take.fin finM
  by_cases h8 : 0 ≤ rd t.1 8 ∧ rd t.1 8 < 4294967296
  · have e8 : rd t.1 8 % 4294967296 = rd t.1 8 := by omega
    simp only [e8]
    refine ev_neg (by omega) (ev_neg (by omega) (Ev.bind (msg_ev (rd t.1 0) (rd t.1 1) (rd t.1 2) (rd t.1 3) (rd t.1 4) (rd t.1 5) (rd t.1 6) (rd t.1 7) (rd t.1 8) (rd t.1 9) t.2.1) ?_))
    by_cases ho : msgOk (rd t.1 0) (rd t.1 1) (rd t.1 2) (rd t.1 3) (rd t.1 4) (rd t.1 5) (rd t.1 6) (rd t.1 7) (rd t.1 8) (rd t.1 9) t.2.1
    · exact ev_pos (decide_eq_true ho) (ev_some (by rw [if_pos ⟨h8, ho⟩]))
    · exact ev_neg (by simpa using ho) (ev_some (by rw [if_neg (fun h => ho h.2)]; rfl))
  · by_cases h0 : rd t.1 8 < 0
    · exact ev_pos h0 (ev_some (by rw [if_neg (fun h => h8 h.1)]; rfl))
    · exact ev_neg h0 (ev_pos (by omega) (ev_some (by rw [if_neg (fun h => h8 h.1)]; rfl)))
theorem msg_Take_ev (s : ByteArray) (hs : s.size ≤ 9223372036854775000) : Ev (fun k => msg_Take.f k s) (takeM s) := by
  unfold msg_Take.f takeM
  refine Ev.bind (frame_Take_ev s hs) ?_
  by_cases h : (takeF s).2.2 = 0
  · rw [if_pos h]
    refine ev_pos h ?_
    by_cases hn : (takeF s).2.1 < s.size
    · rw [if_pos hn]
      exact ev_pos hn (ev_some rfl)
    · rw [if_neg hn]
      refine ev_neg hn (Ev.bind (go_ev 10 _ []) ?_)
      by_cases hg : (goS 10 (takeF s).1 []).2.2 = 0
      · rw [if_pos hg]
        exact ev_pos hg (fin_ev _)
      · rw [if_neg hg]
        exact ev_neg hg (ev_some rfl)
  · rw [if_neg h]
    exact ev_neg h (ev_some rfl)
theorem ref_TakeM_ev (s : ByteArray) (hs : s.size ≤ 9223372036854775000) : Ev (fun k => thresherref15_Take.f k s) (takeM s) := by
  unfold thresherref15_Take.f takeM
  refine Ev.bind (ref_TakeFrame_ev s hs) ?_
  by_cases h : (takeF s).2.2 = 0
  · rw [if_pos h]
    refine ev_pos h ?_
    by_cases hn : (takeF s).2.1 < s.size
    · rw [if_pos hn]
      exact ev_pos hn (ev_some rfl)
    · rw [if_neg hn]
      refine ev_neg hn (Ev.bind (rgo_ev 10 _ []) ?_)
      by_cases hg : (goS 10 (takeF s).1 []).2.2 = 0
      · rw [if_pos hg]
        exact ev_pos hg (rfin_ev _)
      · rw [if_neg hg]
        exact ev_neg hg (ev_some rfl)
  · rw [if_neg h]
    exact ev_neg h (ev_some rfl)
/-! ### there and back -/
theorem goS_nb (m : Nat) (n : Int) (r : ByteArray) (l : List Int) (h1 : -9223372036854775808 ≤ n) (h2 : n ≤ 9223372036854775807) : goS (m + 1) (nb n ++ r) l = goS m r (l ++ [n]) := by
  have e := dec_nb n r.data.toList h1 h2
  have e2 : (nb n ++ r).data.toList = (nb n).data.toList ++ r.data.toList := by rw [ByteArray.data_append, Array.toList_append]
  rw [goS, e2, e, if_pos rfl]
  simp only [Int.toNat_natCast]
  rw [ext_right]
theorem takeM_body {K F T J S E O L U C : Int} {D : ByteArray} (h : msgOk K F T J S E O L U C D) (hU : 0 ≤ U ∧ U < 4294967296) : takeM (frame (body K F T J S E O L U C D)) = (K, F, T, J, S, E, O, L, U, C, D, 0) := by
  have hb := body_size h hU
  obtain ⟨hK, hF, hT, hJ, hS, hE, hO, hL, hC⟩ := ok_range h hU
  have et : takeF (frame (body K F T J S E O L U C D)) = (body K F T J S E O L U C D, 8 + ((body K F T J S E O L U C D).size : Int), 0) := by
    have := takeF_frame (body K F T J S E O L U C D) ⟨#[]⟩ (by omega)
    rwa [show frame (body K F T J S E O L U C D) ++ (⟨#[]⟩ : ByteArray) = frame (body K F T J S E O L U C D) from ByteArray.append_empty] at this
  have eg : goS 10 (body K F T J S E O L U C D) [] = ([K, F, T, J, S, E, O, L, U, C], D, 0) := by
    unfold body
    simp only [ByteArray.append_assoc]
    rw [goS_nb _ _ _ _ (by omega) (by omega), goS_nb _ _ _ _ (by omega) (by omega), goS_nb _ _ _ _ (by omega) (by omega), goS_nb _ _ _ _ (by omega) (by omega), goS_nb _ _ _ _ (by omega) (by omega), goS_nb _ _ _ _ (by omega) (by omega), goS_nb _ _ _ _ (by omega) (by omega), goS_nb _ _ _ _ (by omega) (by omega), goS_nb _ _ _ _ (by omega) (by omega), goS_nb _ _ _ _ (by omega) (by omega)]
    rfl
  have hz := frame_size (body K F T J S E O L U C D)
  unfold takeM
  rw [et]
  simp only
  rw [if_pos trivial, if_neg (by omega), eg]
  simp only
  rw [if_pos trivial]
  unfold finM
  exact if_pos ⟨hU, h⟩
end Go.Proofs.Ytjboibdoelkfpaa.MsgPure
