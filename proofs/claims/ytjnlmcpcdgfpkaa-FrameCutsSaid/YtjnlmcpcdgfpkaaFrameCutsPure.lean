/- FrameCuts over its printed functions (not finished). -/
import Derived.Test.YtjnlmcpcdgfpkaaQ7
import Derived.Test.YtjnlmcpcdgfpkaaQ5
import Derived.Test.YtjnlmcpcdgfpkaaQ3
import Derived.Test.YtjnlmcpcdgfpkaaQ6
import Derived.Test.YtjnlmcpcdgfpkaaScanPure
import Derived.Test.YtjnlmcpcdgfpkaaFrameBytesPure
set_option linter.unusedVariables false
namespace Go.Proofs.Ytjnlmcpcdgfpkaa.FrameCutsPure
open Go Go.RowKit Go.Proofs.YtjnlmcpcdgfpkaaW.PrintWords Go.Proofs.YtjnlmcpcdgfpkaaW.PrintMore Go.Proofs.Ytjnlmcpcdgfpkaa.Num7 Go.Proofs.Ytjnlmcpcdgfpkaa.Bits7 Go.Proofs.Ytjnlmcpcdgfpkaa.NumPure Go.Proofs.Ytjnlmcpcdgfpkaa.FtakePure Go.Proofs.Ytjnlmcpcdgfpkaa.CrcPure Go.Proofs.Ytjnlmcpcdgfpkaa.FlipPure Go.Proofs.Ytjnlmcpcdgfpkaa.ScanPure Go.Proofs.Ytjnlmcpcdgfpkaa.Q

theorem rowOf_append (a b : List ByteArray) : rowOf (a ++ b) = rowOf a ++ rowOf b := by
  induction a with
  | nil => exact ByteArray.empty_append.symm
  | cons s r ih =>
    show frame s ++ rowOf (r ++ b) = (frame s ++ rowOf r) ++ rowOf b
    rw [ih, ByteArray.append_assoc]
theorem rowOf_one (s : ByteArray) : rowOf [s] = frame s := ByteArray.append_empty
theorem set_list (x : ByteArray) (p : Nat) (v : Int) : (strOfNums ((bytesOf x).set p v)).data.toList = x.data.toList.set p (UInt8.ofNat v.toNat) := by
  unfold strOfNums bytesOf
  simp only [List.map_set, List.map_map]
  congr 1
  conv => rhs; rw [← List.map_id x.data.toList]
  apply List.map_congr_left
  intro b _
  simp
theorem xor_ne (a m : Int) (ha : 0 ≤ a ∧ a < 256) (hm : 0 < m ∧ m < 256) : 0 ≤ bits .xor .u8 a m ∧ bits .xor .u8 a m < 256 ∧ bits .xor .u8 a m ≠ a := by
  have hx : a.toNat ^^^ m.toNat < 2 ^ 8 := Nat.xor_lt_two_pow (by omega) (by omega)
  rw [u8_xor a m ha.1 ha.2 (by omega) hm.2]
  refine ⟨by omega, by omega, fun h => ?_⟩
  have h2 : a.toNat ^^^ m.toNat = a.toNat ^^^ 0 := by rw [Nat.xor_zero]; omega
  have := xor_inj h2
  omega
theorem bit_range (k : Nat) (h : k < 8) : 0 < shl .u8 1 (k : Int) ∧ shl .u8 1 (k : Int) < 256 := by
  rcases (show k = 0 ∨ k = 1 ∨ k = 2 ∨ k = 3 ∨ k = 4 ∨ k = 5 ∨ k = 6 ∨ k = 7 by omega) with rfl | rfl | rfl | rfl | rfl | rfl | rfl | rfl <;> decide
theorem within_eq (a n : Int) (hn : 0 < n ∧ n ≤ 9223372036854775807) : ∃ v : Int, thresherlaw0_Within.f a n = some v ∧ 0 ≤ v ∧ v < n := by
  unfold thresherlaw0_Within.f
  rw [wrap_u64, wrap_u64, if_neg (by omega)]
  refine ⟨_, rfl, ?_⟩
  have h1 : 0 ≤ a % 18446744073709551616 := by omega
  have h3 : n % 18446744073709551616 = n := by omega
  rw [h3, Int.tmod_eq_emod_of_nonneg h1]
  have b1 := Int.emod_nonneg (a % 18446744073709551616) (show n ≠ 0 by omega)
  have b2 := Int.emod_lt_of_pos (a % 18446744073709551616) hn.1
  rw [w64 (by omega) (by omega)]
  exact ⟨b1, b2⟩
theorem l1_ev (x0 : List ByteArray) (x3 : ByteArray) (x4 : List Int) (x5 : Int) (s : ByteArray) (hs : s.size ≤ 300) (h3 : x3.size ≤ 100000) (h4 : x4.length ≤ 1000) (h : Ev (fun k => thresherlaw5_FrameCuts.l0 k x0 (x3 ++ frame s) (x4 ++ [((x3.size : Int) + ((frame s).size : Int))]) (wrap64 (x5 + 1))) true) (d : Nat) : ∀ j : Nat, j + d = 8 → Ev (fun k => thresherlaw5_FrameCuts.l1 k x0 x3 x4 x5 (frame s) (j : Int)) true := by
  have hz := frame_size s
  induction d with
  | zero =>
    intro j hd
    exact Ev.step (fun k => by rw [thresherlaw5_FrameCuts.l1]) (ev_neg (by omega) (ev_pos (by omega) (ev_pos (by omega) h)))
  | succ d ih =>
    intro j hd
    have e4 : wrap64 (((frame s).size : Int) - 4) = ((frame s).size : Int) - 4 := w64 (by omega) (by omega)
    refine Ev.step (fun k => by rw [thresherlaw5_FrameCuts.l1]) ?_
    refine ev_pos (by omega) (ev_pos (by omega) (ev_one rfl ?_))
    rw [e4]
    obtain ⟨v, hv, hv1, hv2⟩ := within_eq (wrap64 ((wrap64 (Int.tdiv (wrap64 ((j : Int) * ((frame s).size : Int))) 8)) + x5)) (((frame s).size : Int) - 4) (by omega)
    refine ev_one hv ?_
    have e5 : wrap64 (4 + v) = 4 + v := w64 (by omega) (by omega)
    rw [e5]
    have hbl : (bytesOf (frame s)).length = 8 + s.size := by rw [bytesOf_length, hz]
    refine ev_pos (by omega) (ev_pos (by omega) (ev_pos (by omega) ?_))
    have hp : (4 + v).toNat < (frame s).data.toList.length := by rw [data_length]; omega
    have hrd : rd (bytesOf (frame s)) (4 + v) = (((frame s).data.toList.getD (4 + v).toNat 0).toNat : Int) := by
      unfold rd bytesOf
      rw [List.getD_eq_getElem?_getD, List.getD_eq_getElem?_getD, List.getElem?_map, List.getElem?_eq_getElem hp]
      rfl
    have hb0 := u8_lt ((frame s).data.toList.getD (4 + v).toNat 0)
    obtain ⟨x1, x2, x3'⟩ := xor_ne (rd (bytesOf (frame s)) (4 + v)) (shl .u8 1 (j : Int)) (by rw [hrd]; omega) (bit_range j (by omega))
    have hf := flip s (strOfNums ((bytesOf (frame s)).set (4 + v).toNat (Go.bits .xor .u8 (rd (bytesOf (frame s)) (4 + v)) (shl .u8 1 (j : Int))))) (4 + v).toNat (UInt8.ofNat (Go.bits .xor .u8 (rd (bytesOf (frame s)) (4 + v)) (shl .u8 1 (j : Int))).toNat) (by omega) (set_list _ _ _) (by omega) (by omega) (by
      intro he
      apply x3'
      have := congrArg UInt8.toNat he
      rw [UInt8.toNat_ofNat', Nat.mod_eq_of_lt (by omega)] at this
      have h2 : Go.bits .xor .u8 (rd (bytesOf (frame s)) (4 + v)) (shl .u8 1 (j : Int)) = (((frame s).data.toList.getD (4 + v).toNat 0).toNat : Int) := by omega
      rw [h2]
      exact hrd.symm)
    refine Ev.bind (frame_Take_ev _ (by rw [strOfNums_size, List.length_set, hbl]; omega)) ?_
    refine ev_one (a := (8 : Int)) (congrArg some hf) (ev_pos rfl ?_)
    rw [w64 (x := (j : Int) + 1) (by omega) (by omega), show (j : Int) + 1 = ((j + 1 : Nat) : Int) by omega]
    exact ih (j + 1) (by omega)
theorem rowOf_cons_size (s : ByteArray) (r : List ByteArray) : (rowOf (s :: r)).size = 8 + s.size + (rowOf r).size := by
  show (frame s ++ rowOf r).size = _
  rw [ByteArray.size_append, frame_size]
theorem whole_at (ts : List ByteArray) : ∀ (k n : Nat), k ≤ ts.length → (rowOf (ts.take k)).size ≤ n → (k = ts.length ∨ n < (rowOf (ts.take (k + 1))).size) → whole ts n = k ∧ upto ts n = (rowOf (ts.take k)).size := by
  induction ts with
  | nil =>
    intro k n hk h1 h2
    have : k = 0 := by simpa using hk
    subst this
    exact ⟨rfl, rfl⟩
  | cons s r ih =>
    intro k n hk h1 h2
    cases k with
    | zero =>
      have h3 : n < 8 + s.size := by
        rcases h2 with h2 | h2
        · simp at h2
        · rw [List.take_succ_cons, List.take_zero, rowOf_cons_size] at h2
          have : (rowOf []).size = 0 := rfl
          omega
      exact ⟨(if_neg (by omega) : whole (s :: r) n = 0), (if_neg (by omega) : upto (s :: r) n = 0)⟩
    | succ k =>
      rw [List.take_succ_cons, rowOf_cons_size] at h1
      have h3 : 8 + s.size ≤ n := by omega
      obtain ⟨q1, q2⟩ := ih k (n - (8 + s.size)) (by simpa using hk) (by omega) (by
        rcases h2 with h2 | h2
        · exact .inl (by simpa using h2)
        · rw [List.take_succ_cons, rowOf_cons_size] at h2
          exact .inr (by omega))
      simp only [whole, upto, if_pos h3, q1, q2]
      rw [List.take_succ_cons, rowOf_cons_size]
      omega
def ends (ts : List ByteArray) : List Int := (List.range ts.length).map fun j => ((rowOf (ts.take (j + 1))).size : Int)
theorem ends_len (ts : List ByteArray) : (ends ts).length = ts.length := by simp [ends]
theorem ends_rd (ts : List ByteArray) (k : Nat) (h : k < ts.length) : rd (ends ts) (k : Int) = ((rowOf (ts.take (k + 1))).size : Int) := by
  unfold rd ends
  rw [Int.toNat_natCast, List.getD_eq_getElem?_getD, List.getElem?_map, List.getElem?_range h]
  rfl
theorem l3_ev (x0 ts : List ByteArray) (n : Nat) (ht : ts.length ≤ 5) (h : Ev (fun k => thresherlaw5_FrameCuts.j6 k x0 (rowOf ts) (ends ts) (n : Int) ((whole ts n : Nat) : Int) ((upto ts n : Nat) : Int)) true) (d : Nat) : ∀ k : Nat, k + d = ts.length → (rowOf (ts.take k)).size ≤ n → Ev (fun q => thresherlaw5_FrameCuts.l3 q x0 (rowOf ts) (ends ts) (n : Int) (k : Int) ((rowOf (ts.take k)).size : Int) (k : Int)) true := by
  have el := ends_len ts
  induction d with
  | zero =>
    intro k hd hk
    obtain ⟨q1, q2⟩ := whole_at ts k n (by omega) hk (.inl (by omega))
    rw [q1, q2] at h
    exact Ev.step (fun k => by rw [thresherlaw5_FrameCuts.l3]) (ev_neg (by omega) h)
  | succ d ih =>
    intro k hd hk
    have er := ends_rd ts k (by omega)
    refine Ev.step (fun k => by rw [thresherlaw5_FrameCuts.l3]) (ev_pos (by omega) (ev_pos (by omega) ?_))
    rw [er]
    by_cases hn : (rowOf (ts.take (k + 1))).size ≤ n
    · refine ev_pos (by omega) ?_
      rw [w64 (x := (k : Int) + 1) (by omega) (by omega), show (k : Int) + 1 = ((k + 1 : Nat) : Int) by omega]
      exact ih (k + 1) (by omega) hn
    · obtain ⟨q1, q2⟩ := whole_at ts k n (by omega) hk (.inr (by omega))
      rw [q1, q2] at h
      exact ev_neg (by omega) h
theorem whole_le (ts : List ByteArray) : ∀ n, whole ts n ≤ ts.length := by
  induction ts with
  | nil => intro n; exact Nat.le_refl _
  | cons s r ih =>
    intro n
    have := ih (n - (8 + s.size))
    simp only [whole, List.length_cons]
    split <;> omega
theorem row_size (ts : List ByteArray) (h : ∀ s ∈ ts, s.size ≤ 300) : (rowOf ts).size ≤ 308 * ts.length := by
  induction ts with
  | nil => exact Nat.zero_le _
  | cons s r ih =>
    have h1 := h s List.mem_cons_self
    have h2 := ih (fun y hy => h y (List.mem_cons_of_mem _ hy))
    rw [rowOf_cons_size, List.length_cons]
    omega
theorem wakes_ev : Ev (fun k => thresherlaw5_wakes.f k) true := by
  unfold thresherlaw5_wakes.f
  refine Ev.bind (frame_Bytes_ev ⟨#[]⟩ (by decide)) (ev_one (a := (0 : Int)) rfl (ev_pos rfl (ev_some ?_)))
  have := frame_size ⟨#[]⟩
  have h0 : (⟨#[]⟩ : ByteArray).size = 0 := rfl
  rw [beq_iff_eq]
  show ((frame ⟨#[]⟩).size : Int) = 8
  omega
theorem l2_ev (x0 : List ByteArray) (i : Nat) (hi : i ≤ 5) (hx : x0.length ≤ 8796093022208) (hts : ∀ s ∈ x0.take i, s.size ≤ 300) (d : Nat) : ∀ n : Nat, (rowOf (x0.take i)).size < n + d → Ev (fun k => thresherlaw5_FrameCuts.l2 k x0 (rowOf (x0.take i)) (ends (x0.take i)) (n : Int)) true := by
  have hl : (x0.take i).length ≤ 5 := by rw [List.length_take]; omega
  have hr := row_size _ hts
  induction d with
  | zero =>
    intro n hd
    exact Ev.step (fun k => by rw [thresherlaw5_FrameCuts.l2]) (ev_neg (by omega) (Ev.bind wakes_ev (ev_some rfl)))
  | succ d ih =>
    intro n hd
    refine Ev.step (fun k => by rw [thresherlaw5_FrameCuts.l2]) ?_
    by_cases hn : n ≤ (rowOf (x0.take i)).size
    · refine ev_pos (by omega) ?_
      have hw := whole_le (x0.take i) n
      have hz : ((rowOf (x0.take i)).extract 0 n).size = n := by rw [ByteArray.size_extract]; omega
      refine l3_ev x0 (x0.take i) n hl ?_ (x0.take i).length 0 (by omega) (Nat.zero_le _)
      refine Ev.step (fun k => by rw [thresherlaw5_FrameCuts.j6]) (ev_pos (by omega) (ev_pos (by omega) ?_))
      rw [Int.toNat_natCast]
      have hs := frame_Scan_ev ((rowOf (x0.take i)).extract 0 n) (by omega)
      have e : scan ((rowOf (x0.take i)).extract 0 n) = ((x0.take i).take (whole (x0.take i) n), ((upto (x0.take i) n : Nat) : Int)) := by
        have := scan_cut (x0.take i) hts (n + 1) n ⟨#[]⟩ [] hn (by omega)
        rw [show (⟨#[]⟩ : ByteArray) ++ (rowOf (x0.take i)).extract 0 n = (rowOf (x0.take i)).extract 0 n from ByteArray.empty_append] at this
        have z : (⟨#[]⟩ : ByteArray).size = 0 := rfl
        rw [z, Nat.zero_add, List.nil_append] at this
        unfold scan
        rw [hz]
        exact this
      rw [e] at hs
      refine Ev.bind hs (ev_pos rfl ?_)
      have hlx : (x0.take i).length ≤ x0.length := by rw [List.length_take]; omega
      refine ev_pos (by omega) (ev_pos (by omega) ?_)
      have e2 : (x0.take i).take (whole (x0.take i) n) = x0.take (whole (x0.take i) n) := by
        rw [List.take_take, Nat.min_eq_left]
        rw [List.length_take] at hw
        omega
      rw [Int.toNat_natCast, e2]
      refine Ev.bind (eqs_ev _ (by rw [List.length_take]; omega)) (ev_pos rfl ?_)
      rw [w64 (x := (n : Int) + 1) (by omega) (by omega), w64 (x := ((rowOf (x0.take i)).size : Int) / 60) (by omega) (by omega), w64 (by omega) (by omega), show (n : Int) + 1 + ((rowOf (x0.take i)).size : Int) / 60 = ((n + 1 + (rowOf (x0.take i)).size / 60 : Nat) : Int) by omega]
      exact ih _ (by omega)
    · exact ev_neg (by omega) (Ev.bind wakes_ev (ev_some rfl))
theorem take_next (x0 : List ByteArray) (i : Nat) (hi : i < x0.length) : x0.take (i + 1) = x0.take i ++ [rdOf ByteArray.empty x0 (i : Int)] := by
  unfold rdOf
  rw [Int.toNat_natCast, List.getD_eq_getElem?_getD, List.getElem?_eq_getElem hi, List.take_succ_eq_append_getElem hi]
  rfl
theorem ends_next (ts : List ByteArray) (s : ByteArray) : ends (ts ++ [s]) = ends ts ++ [((rowOf ts).size : Int) + ((frame s).size : Int)] := by
  unfold ends
  rw [List.length_append, List.length_singleton, List.range_succ, List.map_append]
  congr 1
  · apply List.map_congr_left
    intro j hj
    have := List.mem_range.1 hj
    rw [List.take_append_of_le_length (by omega)]
  · simp only [List.map_cons, List.map_nil]
    rw [List.take_of_length_le (by simp), rowOf_append, rowOf_one, ByteArray.size_append]
    congr 1
theorem l0_ev (x0 : List ByteArray) (hx : x0.length ≤ 8796093022208) (d : Nat) : ∀ i : Nat, i + d = 5 → (∀ s ∈ x0.take i, s.size ≤ 300) → i ≤ x0.length → Ev (fun k => thresherlaw5_FrameCuts.l0 k x0 (rowOf (x0.take i)) (ends (x0.take i)) (i : Int)) true := by
  have last : ∀ i : Nat, i ≤ 5 → (∀ s ∈ x0.take i, s.size ≤ 300) → Ev (fun k => thresherlaw5_FrameCuts.j1 k x0 (rowOf (x0.take i)) (ends (x0.take i)) (i : Int) false) true := by
    intro i hi hts
    refine Ev.step (fun k => by rw [thresherlaw5_FrameCuts.j1]) ?_
    exact ev_neg (by simp) (l2_ev x0 i hi hx hts ((rowOf (x0.take i)).size + 1) 0 (by omega))
  induction d with
  | zero =>
    intro i hd hts hi
    refine Ev.step (fun k => by rw [thresherlaw5_FrameCuts.l0]) ?_
    by_cases h : (i : Int) < (x0.length : Int)
    · refine ev_pos h ?_
      rw [decide_eq_false (by omega)]
      exact last i (by omega) hts
    · exact ev_neg h (last i (by omega) hts)
  | succ d ih =>
    intro i hd hts hi
    refine Ev.step (fun k => by rw [thresherlaw5_FrameCuts.l0]) ?_
    by_cases h : (i : Int) < (x0.length : Int)
    · refine ev_pos h ?_
      rw [decide_eq_true (by omega)]
      refine Ev.step (fun k => by rw [thresherlaw5_FrameCuts.j1]) (ev_pos rfl (ev_pos (by omega) (ev_pos h ?_)))
      have tn := take_next x0 i (by omega)
      by_cases hs : ((rdOf ByteArray.empty x0 (i : Int)).size : Int) > 300
      · exact ev_pos hs (ev_some rfl)
      · refine ev_neg hs (Ev.bind (frame_Bytes_ev _ (by omega)) ?_)
        refine ev_one (a := (0 : Int)) rfl (ev_pos rfl ?_)
        have hz := frame_size (rdOf ByteArray.empty x0 (i : Int))
        have hl : (x0.take i).length ≤ 5 := by rw [List.length_take]; omega
        have hr := row_size _ hts
        have hts2 : ∀ s ∈ x0.take (i + 1), s.size ≤ 300 := by
          intro s hm
          rw [tn] at hm
          rcases List.mem_append.1 hm with hm | hm
          · exact hts s hm
          · rw [List.mem_singleton] at hm
            subst hm
            omega
        have nx := ih (i + 1) (by omega) hts2 (by omega)
        rw [tn, rowOf_append, rowOf_one, ends_next] at nx
        refine Ev.step (fun k => by rw [thresherlaw5_FrameCuts.j2]) ?_
        refine ev_neg ?_ ?_
        · rw [w64 (by omega) (by omega)]
          simp only [bne_iff_ne, ne_eq, Decidable.not_not]
          show ((frame (rdOf ByteArray.empty x0 (i : Int))).size : Int) = _
          omega
        · refine l1_ev x0 _ _ (i : Int) _ (by omega) (by omega) (by rw [ends_len]; omega) ?_ 8 0 (by omega)
          rw [w64 (x := (i : Int) + 1) (by omega) (by omega), show (i : Int) + 1 = ((i + 1 : Nat) : Int) by omega]
          exact nx
    · exact ev_neg h (last i (by omega) hts)
theorem pure (x : List ByteArray) (hok : x.length * 16 ≤ 140737488351232 ∧ ∀ x_ ∈ x, x_.size ≤ 140737488351232) : ∃ k, thresherlaw5_FrameCuts.f k x = some true := by
  refine Ev.rounds ?_
  obtain ⟨hl, hb⟩ := hok
  obtain ⟨r, hr, h1, h2⟩ := FrameBytesPure.weight_l0 x hb (by omega) x.length 0 x.length (by omega) (by omega)
  have hw : Ev (fun k => thresherlaw5_heavy.f k x) (decide ((r : Int) > 9000)) := by
    unfold thresherlaw5_heavy.f thresherlaw0_TextWeight.f
    exact Ev.bind hr (ev_some rfl)
  unfold thresherlaw5_FrameCuts.f
  refine Ev.bind hw ?_
  by_cases h : decide ((r : Int) > 9000) = true
  · exact ev_pos h (ev_some rfl)
  · exact ev_neg h (l0_ev x (by omega) 5 0 rfl (by simp) (Nat.zero_le _))
end Go.Proofs.Ytjnlmcpcdgfpkaa.FrameCutsPure
