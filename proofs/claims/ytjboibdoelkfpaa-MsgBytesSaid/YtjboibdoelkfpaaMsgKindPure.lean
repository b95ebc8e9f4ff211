/- The statements of messages over their printed functions: whatever messages are handed in, they tell true. -/
import Derived.Test.YtjboibdoelkfpaaQ9
import Derived.Test.YtjboibdoelkfpaaQ11
import Derived.Test.YtjboibdoelkfpaaQ10
import Derived.Test.YtjboibdoelkfpaaQ2
import Derived.Test.YtjboibdoelkfpaaMsgPure
import Derived.Test.YtjboibdoelkfpaaQOk
set_option linter.unusedVariables false
set_option linter.unusedSimpArgs false
namespace Go.Proofs.Ytjboibdoelkfpaa.MsgKindPure
open Go Go.RowKit Go.Proofs.YtjboibdoelkfpaaW.PrintWords Go.Proofs.YtjboibdoelkfpaaW.PrintMore Go.Proofs.Ytjboibdoelkfpaa.Num7 Go.Proofs.Ytjboibdoelkfpaa.Bits7 Go.Proofs.Ytjboibdoelkfpaa.NumPure Go.Proofs.Ytjboibdoelkfpaa.FtakePure Go.Proofs.Ytjboibdoelkfpaa.MsgPure Go.Proofs.Ytjboibdoelkfpaa.Q Go.Proofs.Ytjboibdoelkfpaa.QOk

def tot (l : List S29) : Nat := (l.map (·.f10.size)).sum
theorem rd_getD (l : List S29) (i : Nat) : rd_T29 l (i : Int) = l.getD i z29 := by
  simp [rd_T29]
theorem drop_getD (l : List S29) (i : Nat) (h : i < l.length) : l.drop i = l.getD i z29 :: l.drop (i + 1) := by
  rw [List.drop_eq_getElem_cons h, List.getD_eq_getElem?_getD, List.getElem?_eq_getElem h]
  rfl
theorem getD_mem (l : List S29) (i : Nat) (h : i < l.length) : l.getD i z29 ∈ l := by
  rw [List.getD_eq_getElem?_getD, List.getElem?_eq_getElem h]
  exact List.getElem_mem h
theorem weight_l0 (l : List S29) (hb : ∀ x ∈ l, x.f10.size ≤ 140737488351232) (hl : l.length ≤ 140737488351232) (d : Nat) : ∀ (i n : Nat), i + d = l.length → n ≤ 140737490000000 → ∃ r : Nat, Ev (fun k => thresherlaw0_MsgsWeight.l0 k l (n : Int) (i : Int)) (r : Int) ∧ n ≤ r ∧ (1048576 ≤ r ∨ r = n + tot (l.drop i)) := by
  induction d with
  | zero =>
    intro i n hd hn
    refine ⟨n, Ev.step (fun k => by rw [thresherlaw0_MsgsWeight.l0]) (ev_neg (by omega) (ev_some rfl)), Nat.le_refl _, .inr ?_⟩
    rw [List.drop_eq_nil_of_le (by omega)]
    simp [tot]
  | succ d ih =>
    intro i n hd hn
    by_cases h : n < 1048576
    · have hi : i < l.length := by omega
      have hx := hb _ (getD_mem l i hi)
      obtain ⟨r, hr, h1, h2⟩ := ih (i + 1) (n + (l.getD i z29).f10.size) (by omega) (by omega)
      refine ⟨r, Ev.step (fun k => by rw [thresherlaw0_MsgsWeight.l0]) (ev_pos (by omega) (ev_pos (by omega) (ev_pos (by omega) ?_))), by omega, ?_⟩
      · rw [rd_getD, w64 (x := (i : Int) + 1) (by omega) (by omega), w64 (by omega) (by omega), show (i : Int) + 1 = ((i + 1 : Nat) : Int) by omega, show (n : Int) + ((l.getD i z29).f10.size : Int) = ((n + (l.getD i z29).f10.size : Nat) : Int) by omega]
        exact hr
      · rcases h2 with h2 | h2
        · exact .inl h2
        · refine .inr ?_
          rw [drop_getD l i hi]
          unfold tot at h2 ⊢
          simp only [List.map_cons, List.sum_cons]
          omega
    · exact ⟨n, Ev.step (fun k => by rw [thresherlaw0_MsgsWeight.l0]) (ev_pos (by omega) (ev_neg (by omega) (ev_some rfl))), Nat.le_refl _, .inl (by omega)⟩
/-- Whatever is handed in is either more than is played, or it is little. -/
theorem heavy_ev (l : List S29) (x : ByteArray) (hb : ∀ x ∈ l, x.f10.size ≤ 140737488351232) (hl : l.length ≤ 10000000000000) : ∃ b : Bool, Ev (fun k => thresherlaw15_Heavy.f k l x) b ∧ (b = false → l.length ≤ 12000 ∧ x.size ≤ 5000) := by
  obtain ⟨r, hr, h1, h2⟩ := weight_l0 l hb (by omega) l.length 0 l.length (by omega) (by omega)
  have hw : Ev (fun k => thresherlaw0_MsgsWeight.f k l) (r : Int) := hr
  by_cases h : (r : Int) > 12000
  · exact ⟨true, Ev.bind hw (ev_pos h (ev_some rfl)), fun h => by cases h⟩
  · refine ⟨decide ((x.size : Int) > 5000), Ev.bind hw (ev_neg h (ev_some rfl)), fun hf => ?_⟩
    have hx : ¬ ((x.size : Int) > 5000) := by simpa using hf
    omega
/-- Both read any text alike. -/
theorem same (t : Int × Int × Int × Int × Int × Int × Int × Int × Int × Int × ByteArray × Int) : ¬ ((!(t.1 == t.1) || (!(t.2.1 == t.2.1) || (!(t.2.2.1 == t.2.2.1) || (!(t.2.2.2.1 == t.2.2.2.1) || (!(t.2.2.2.2.1 == t.2.2.2.2.1) || (!(t.2.2.2.2.2.1 == t.2.2.2.2.2.1) || (!(t.2.2.2.2.2.2.1 == t.2.2.2.2.2.2.1) || (!(t.2.2.2.2.2.2.2.1 == t.2.2.2.2.2.2.2.1) || (!(t.2.2.2.2.2.2.2.2.1 == t.2.2.2.2.2.2.2.2.1) || (!(t.2.2.2.2.2.2.2.2.2.1 == t.2.2.2.2.2.2.2.2.2.1) || (!(t.2.2.2.2.2.2.2.2.2.2.1.toList == t.2.2.2.2.2.2.2.2.2.2.1.toList)))))))))))) = true) := by
  simp
theorem rounds_ev (n : Int) (s : ByteArray) (hs : s.size ≤ 30000) (d : Nat) : ∀ i : Nat, i + d = s.size → Ev (fun k => thresherlaw15_one.l0 k n s (i : Int)) true := by
  have last : ∀ i : Int, Ev (fun k => thresherlaw15_one.j4 k n s i false) true := fun i => Ev.step (fun k => by rw [thresherlaw15_one.j4]) (ev_neg (by simp) (ev_some rfl))
  induction d with
  | zero =>
    intro i hd
    exact Ev.step (fun k => by rw [thresherlaw15_one.l0]) (ev_neg (by omega) (last _))
  | succ d ih =>
    intro i hd
    refine Ev.step (fun k => by rw [thresherlaw15_one.l0]) (ev_pos (by omega) ?_)
    by_cases h16 : (i : Int) < 16
    · rw [decide_eq_true h16]
      refine Ev.step (fun k => by rw [thresherlaw15_one.j4]) (ev_pos rfl (ev_pos (by omega) (ev_one rfl ?_)))
      refine ev_pos (by omega) (ev_pos (by rw [bytesOf_length]; omega) ?_)
      refine Ev.bind (ref_Frame_ev _ (by rw [strOfNums_size, List.length_set, bytesOf_length]; omega)) ?_
      have hz := frame_size (strOfNums ((bytesOf s).set (i : Int).toNat (Go.bits .xor .u8 (rd (bytesOf s) (i : Int)) ((wrap64 (1 + (Int.tmod (wrap64 ((wrap64 (n * 31)) + (wrap64 ((i : Int) * 7)))) 255))) % 256))))
      rw [strOfNums_size, List.length_set, bytesOf_length] at hz
      refine Ev.bind (msg_Take_ev _ (by omega)) (Ev.bind (ref_TakeM_ev _ (by omega)) (ev_neg (same _) (ev_one rfl (ev_pos rfl ?_))))
      rw [w64 (x := (i : Int) + 1) (by omega) (by omega), show (i : Int) + 1 = ((i + 1 : Nat) : Int) by omega]
      exact ih (i + 1) (by omega)
    · rw [decide_eq_false h16]
      exact last _
theorem one_ev (K F T J S E O L U C : Int) (D : ByteArray) (n : Int) (hU : 0 ≤ U ∧ U < 4294967296) : Ev (fun k => thresherlaw15_one.f k K F T J S E O L U C D n) true := by
  unfold thresherlaw15_one.f
  have hc := check_ev K F T J S E O L U C D
  by_cases h : msgOk K F T J S E O L U C D
  · rw [if_pos h] at hc
    have hb := body_size h hU
    have hz := frame_size (body K F T J S E O L U C D)
    refine Ev.bind (msg_Bytes_ok K F T J S E O L U C D h hU) (Ev.bind (msg_ev K F T J S E O L U C D) (ev_pos (decide_eq_true h) (Ev.bind (ref_Bytes_ok K F T J S E O L U C D h hU) ?_)))
    refine Ev.step (fun k => by rw [thresherlaw15_one.j0]) (Ev.bind hc ?_)
    refine ev_one (a := (0 : Int)) rfl ?_
    refine ev_pos rfl ?_
    refine ev_one (a := (0 : Int)) rfl ?_
    refine ev_pos rfl ?_
    refine Ev.step (fun k => by rw [thresherlaw15_one.j1]) (ev_neg (by simp) (ev_pos rfl (Ev.bind (msg_Take_ev (frame (body K F T J S E O L U C D)) (by omega)) ?_)))
    rw [takeM_body h hU]
    refine ev_one rfl (ev_pos rfl ?_)
    refine Ev.step (fun k => by rw [thresherlaw15_one.j2]) (ev_neg (by simp) (ev_pos (by omega) ?_))
    have e0 := ext_size (frame (body K F T J S E O L U C D)) 8 (frame (body K F T J S E O L U C D)).size
    exact rounds_ev n _ (by omega) _ 0 (Nat.zero_add _)
  · rw [if_neg h] at hc
    refine Ev.bind (msg_Bytes_bad K F T J S E O L U C D h) (Ev.bind (msg_ev K F T J S E O L U C D) (ev_neg (by simpa using h) ?_))
    refine Ev.step (fun k => by rw [thresherlaw15_one.j0]) (Ev.bind hc ?_)
    refine ev_one (a := (1 : Int)) rfl ?_
    refine ev_pos rfl ?_
    refine ev_one (a := (1 : Int)) rfl ?_
    refine ev_pos rfl ?_
    refine Ev.step (fun k => by rw [thresherlaw15_one.j1]) (ev_neg (by simp) (ev_neg (by decide) (ev_some rfl)))
theorem wakes_ev : Ev (fun k => thresherlaw15_wakes.f k) true := by
  unfold thresherlaw15_wakes.f
  have hok : msgOk 5 0 2 3 0 0 0 0 0 0 ⟨#[]⟩ := by
    unfold msgOk
    rw [empty_toList]
    show msgOk' 5 0 2 3 0 0 0 0 0 0 true 0
    decide
  refine Ev.bind (msg_Bytes_ok 5 0 2 3 0 0 0 0 0 0 ⟨#[]⟩ hok (by omega)) ?_
  have hb := body_size hok (by omega)
  have hz := frame_size (body 5 0 2 3 0 0 0 0 0 0 ⟨#[]⟩)
  refine Ev.bind (msg_Take_ev (frame (body 5 0 2 3 0 0 0 0 0 0 ⟨#[]⟩)) (by omega)) ?_
  rw [takeM_body hok (by omega)]
  refine ev_one rfl (ev_pos rfl (ev_one rfl (ev_pos rfl (ev_some ?_))))
  simp [empty_toList]
theorem texts_ev (l : List ByteArray) (hs : ∀ y ∈ l, y.size ≤ 100000) (hl : l.length ≤ 12000) (d : Nat) : ∀ i : Nat, i + d = l.length → Ev (fun k => thresherlaw15_MsgBytes.l1 k l (i : Int)) true := by
  induction d with
  | zero =>
    intro i hd
    exact Ev.step (fun k => by rw [thresherlaw15_MsgBytes.l1]) (ev_neg (by omega) (Ev.bind wakes_ev (ev_some rfl)))
  | succ d ih =>
    intro i hd
    have hi : i < l.length := by omega
    have he : (rdOf ByteArray.empty l (i : Int)).size ≤ 100000 := by
      refine hs _ ?_
      unfold rdOf
      rw [Int.toNat_natCast, List.getD_eq_getElem?_getD, List.getElem?_eq_getElem hi]
      exact List.getElem_mem hi
    refine Ev.step (fun k => by rw [thresherlaw15_MsgBytes.l1]) (ev_pos (by omega) (ev_pos (by omega) (Ev.bind (msg_Take_ev (rdOf ByteArray.empty l (i : Int)) (by omega)) (Ev.bind (ref_TakeM_ev (rdOf ByteArray.empty l (i : Int)) (by omega)) (ev_neg (same _) ?_)))))
    refine ev_one (a := (takeM (rdOf ByteArray.empty l (i : Int))).2.2.2.2.2.2.2.2.2.2.2) rfl (ev_pos rfl ?_)
    rw [w64 (x := (i : Int) + 1) (by omega) (by omega), show (i : Int) + 1 = ((i + 1 : Nat) : Int) by omega]
    exact ih (i + 1) (by omega)
theorem bytes_l0 (l : List S29) (x : ByteArray) (hl : l.length ≤ 12000) (hz : x.size ≤ 5000) (hu : ∀ y ∈ l, 0 ≤ y.f8 ∧ y.f8 < 4294967296) (d : Nat) : ∀ i : Nat, i + d = l.length → Ev (fun k => thresherlaw15_MsgBytes.l0 k (i : Int) l x) true := by
  have hf := frame_size x
  have last : ∀ i : Int, Ev (fun k => thresherlaw15_MsgBytes.j1 k i false l x) true := fun i => by
    refine Ev.step (fun k => by rw [thresherlaw15_MsgBytes.j1]) (ev_neg (by simp) (Ev.bind (ref_Frame_ev x (by omega)) (Ev.bind (ref_Frame_ev x (by omega)) ?_)))
    refine ev_pos (by omega) ?_
    refine texts_ev _ (fun y hy => ?_) (by simp) 3 0 rfl
    have h1 : (frame x ++ (⟨#[120]⟩ : ByteArray)).size = (frame x).size + 1 := by rw [ByteArray.size_append]; rfl
    simp only [List.mem_cons, List.not_mem_nil, or_false] at hy
    rcases hy with rfl | rfl | rfl <;> omega
  induction d with
  | zero =>
    intro i hd
    exact Ev.step (fun k => by rw [thresherlaw15_MsgBytes.l0]) (ev_neg (by omega) (last _))
  | succ d ih =>
    intro i hd
    have hr := ih (i + 1) (by omega)
    refine Ev.step (fun k => by rw [thresherlaw15_MsgBytes.l0]) (ev_pos (by omega) ?_)
    by_cases h10 : (i : Int) < 10
    · rw [decide_eq_true h10]
      have hm := hu _ (getD_mem l i (by omega))
      rw [← rd_getD] at hm
      refine Ev.step (fun k => by rw [thresherlaw15_MsgBytes.j1]) (ev_pos rfl (ev_pos (by omega) (ev_pos (by omega) (Ev.bind (one_ev _ _ _ _ _ _ _ _ _ _ _ _ hm) (ev_pos rfl ?_)))))
      rw [w64 (x := (i : Int) + 1) (by omega) (by omega), show (i : Int) + 1 = ((i + 1 : Nat) : Int) by omega]
      exact hr
    · rw [decide_eq_false h10]
      exact last _
theorem bytes_ev (x : S24) (hok : okS24 x) : Ev (fun k => thresherlaw15_MsgBytes.f k x.f0 x.f1) true := by
  obtain ⟨⟨hl, hx⟩, hs⟩ := hok
  obtain ⟨b, hb, hn⟩ := heavy_ev x.f0 x.f1 (fun e he => (hx e he).2.2.2.2.2.2.2.2.2.2) (by omega)
  unfold thresherlaw15_MsgBytes.f
  refine Ev.bind hb ?_
  by_cases h : b = true
  · exact ev_pos h (ev_some rfl)
  · have hh := hn (by simpa using h)
    refine ev_neg h (bytes_l0 x.f0 x.f1 hh.1 hh.2 (fun y hy => ?_) x.f0.length 0 (by omega))
    have := (hx y hy).2.2.2.2.2.2.2.2.1
    omega
end Go.Proofs.Ytjboibdoelkfpaa.MsgKindPure
