/- What the printed functions of keys come to; KeyBytes over its printed functions: whatever is handed in, it tells true. -/
import Derived.Test.YtilnobfpkepdbaaQ2
import Derived.Test.YtilnobfpkepdbaaQ3
import Derived.Test.YtilnobfpkepdbaaQ4
import Derived.Test.YtilnobfpkepdbaaQ5
import Derived.Test.YtilnobfpkepdbaaNumPure
import Derived.Test.YtilnobfpkepdbaaQOk
set_option linter.unusedVariables false
set_option linter.unusedSimpArgs false
namespace Go.Proofs.Ytilnobfpkepdbaa.KeyBytesPure
open Go Go.RowKit Go.Proofs.YtilnobfpkepdbaaW.PrintWords Go.Proofs.YtilnobfpkepdbaaW.PrintMore Go.Proofs.Ytilnobfpkepdbaa.Num7 Go.Proofs.Ytilnobfpkepdbaa.Bits7 Go.Proofs.Ytilnobfpkepdbaa.NumPure Go.Proofs.Ytilnobfpkepdbaa.Q Go.Proofs.Ytilnobfpkepdbaa.QOk

theorem ext_drop (s : ByteArray) (n : Nat) : (s.extract n s.size).data.toList = s.data.toList.drop n := by
  rw [ByteArray.data_extract, Array.toList_extract, List.extract_eq_take_drop, List.take_of_length_le]
  rw [List.length_drop, data_length]
  omega
theorem ext_take (s : ByteArray) (j : Nat) : (s.extract 0 j).data.toList = s.data.toList.take j := by
  rw [ByteArray.data_extract, Array.toList_extract, List.extract_eq_take_drop, List.drop_zero, Nat.sub_zero]
def no : ByteArray := ⟨#[]⟩
/-- Which key a text begins with. -/
def takeK (s : ByteArray) : Int × ByteArray × Int × Int :=
  if (dec 0 0 s.data.toList).2.2 = 0 then
    (if (dec 0 0 (s.data.toList.drop (dec 0 0 s.data.toList).2.1.toNat)).2.2 = 0 then
      (if (dec 0 0 (s.data.toList.drop (dec 0 0 s.data.toList).2.1.toNat)).1 < 0 ∨ 64 < (dec 0 0 (s.data.toList.drop (dec 0 0 s.data.toList).2.1.toNat)).1 then (0, no, 0, 2)
       else if (s.size : Int) - ((dec 0 0 s.data.toList).2.1 + (dec 0 0 (s.data.toList.drop (dec 0 0 s.data.toList).2.1.toNat)).2.1) < (dec 0 0 (s.data.toList.drop (dec 0 0 s.data.toList).2.1.toNat)).1 then (0, no, 0, 6)
       else ((dec 0 0 s.data.toList).1, s.extract ((dec 0 0 s.data.toList).2.1 + (dec 0 0 (s.data.toList.drop (dec 0 0 s.data.toList).2.1.toNat)).2.1).toNat ((dec 0 0 s.data.toList).2.1 + (dec 0 0 (s.data.toList.drop (dec 0 0 s.data.toList).2.1.toNat)).2.1 + (dec 0 0 (s.data.toList.drop (dec 0 0 s.data.toList).2.1.toNat)).1).toNat, (dec 0 0 s.data.toList).2.1 + (dec 0 0 (s.data.toList.drop (dec 0 0 s.data.toList).2.1.toNat)).2.1 + (dec 0 0 (s.data.toList.drop (dec 0 0 s.data.toList).2.1.toNat)).1, 0))
     else (0, no, 0, (dec 0 0 (s.data.toList.drop (dec 0 0 s.data.toList).2.1.toNat)).2.2))
  else (0, no, 0, (dec 0 0 s.data.toList).2.2)
theorem key_Take_ev (s : ByteArray) (hs : s.size ≤ 9223372036854770000) : Ev (fun k => key_Take.f k s) (takeK s) := by
  unfold key_Take.f takeK
  refine Ev.bind (num_Take_ev s) ?_
  by_cases h : (dec 0 0 s.data.toList).2.2 = 0
  case neg =>
    rw [if_neg h]
    exact ev_neg h (ev_some rfl)
  rw [if_pos h]
  have hw := dec_within s.data.toList 0 0 h
  rw [data_length] at hw
  refine ev_pos h (ev_pos (by omega) (ev_pos (by omega) ?_))
  have hr := num_Take_ev (s.extract (dec 0 0 s.data.toList).2.1.toNat s.size)
  rw [ext_drop] at hr
  refine Ev.bind hr ?_
  have hw2 : (dec 0 0 (s.data.toList.drop (dec 0 0 s.data.toList).2.1.toNat)).2.2 = 0 → 0 < (dec 0 0 (s.data.toList.drop (dec 0 0 s.data.toList).2.1.toNat)).2.1 ∧ (dec 0 0 (s.data.toList.drop (dec 0 0 s.data.toList).2.1.toNat)).2.1 + (dec 0 0 s.data.toList).2.1 ≤ s.size := by
    intro h2
    have hx := dec_within _ 0 0 h2
    rw [List.length_drop, data_length] at hx
    omega
  generalize dec 0 0 (s.data.toList.drop (dec 0 0 s.data.toList).2.1.toNat) = b at hw2 ⊢
  generalize dec 0 0 s.data.toList = a at h hw hw2 ⊢
  by_cases h2 : b.2.2 = 0
  case neg =>
    rw [if_neg h2]
    exact ev_neg h2 (ev_some rfl)
  rw [if_pos h2]
  obtain ⟨hx1, hx2⟩ := hw2 h2
  have e1 : wrap64 (a.2.1 + b.2.1) = a.2.1 + b.2.1 := w64 (by omega) (by omega)
  refine ev_pos h2 ?_
  rw [e1]
  have big : ∀ r, (b.1 < 0 ∨ 64 < b.1) → r = (0, no, 0, 2) → Ev (fun k => key_Take.j0 k s (a.2.1 + b.2.1) a.1 b.1 true) r := fun r _ hr => by
    refine Ev.step (fun k => by rw [key_Take.j0]) ?_
    exact ev_pos rfl (ev_some hr.symm)
  by_cases h3 : b.1 < 0
  · exact ev_pos h3 (big _ (.inl h3) (by rw [if_pos (.inl h3)]))
  refine ev_neg h3 ?_
  by_cases h4 : b.1 > 64
  · rw [decide_eq_true h4]
    exact big _ (.inr h4) (by rw [if_pos (.inr h4)])
  rw [decide_eq_false h4, if_neg (by omega)]
  refine Ev.step (fun k => by rw [key_Take.j0]) ?_
  have e2 : wrap64 ((s.size : Int) - (a.2.1 + b.2.1)) = (s.size : Int) - (a.2.1 + b.2.1) := w64 (by omega) (by omega)
  have e3 : wrap64 (a.2.1 + b.2.1 + b.1) = a.2.1 + b.2.1 + b.1 := w64 (by omega) (by omega)
  simp only [e2, e3]
  refine ev_neg (by simp) ?_
  by_cases h5 : (s.size : Int) - (a.2.1 + b.2.1) < b.1
  · exact ev_pos h5 (ev_some (by rw [if_pos h5]; rfl))
  · exact ev_neg (by omega) (ev_pos (by omega) (ev_pos (by omega) (ev_pos (by omega) (ev_some (by rw [if_neg h5])))))
theorem ref_TakeK_ev (s : ByteArray) (hs : s.size ≤ 9223372036854770000) : Ev (fun k => thresherref3_Take.f k s) (takeK s) := by
  unfold thresherref3_Take.f takeK
  refine Ev.bind (ref_Take_ev s) ?_
  by_cases h : (dec 0 0 s.data.toList).2.2 = 0
  case neg =>
    rw [if_neg h]
    exact ev_neg h (ev_some rfl)
  rw [if_pos h]
  have hw := dec_within s.data.toList 0 0 h
  rw [data_length] at hw
  refine ev_pos h (ev_pos (by omega) (ev_pos (by omega) ?_))
  have hr := ref_Take_ev (s.extract (dec 0 0 s.data.toList).2.1.toNat s.size)
  rw [ext_drop] at hr
  refine Ev.bind hr ?_
  have hw2 : (dec 0 0 (s.data.toList.drop (dec 0 0 s.data.toList).2.1.toNat)).2.2 = 0 → 0 < (dec 0 0 (s.data.toList.drop (dec 0 0 s.data.toList).2.1.toNat)).2.1 ∧ (dec 0 0 (s.data.toList.drop (dec 0 0 s.data.toList).2.1.toNat)).2.1 + (dec 0 0 s.data.toList).2.1 ≤ s.size := by
    intro h2
    have hx := dec_within _ 0 0 h2
    rw [List.length_drop, data_length] at hx
    omega
  generalize dec 0 0 (s.data.toList.drop (dec 0 0 s.data.toList).2.1.toNat) = b at hw2 ⊢
  generalize dec 0 0 s.data.toList = a at h hw hw2 ⊢
  by_cases h2 : b.2.2 = 0
  case neg =>
    rw [if_neg h2]
    exact ev_neg h2 (ev_some rfl)
  rw [if_pos h2]
  obtain ⟨hx1, hx2⟩ := hw2 h2
  refine ev_pos h2 ?_
  have big : ∀ r, (b.1 < 0 ∨ 64 < b.1) → r = (0, no, 0, 2) → Ev (fun k => thresherref3_Take.j0 k s a.1 a.2.1 b.1 b.2.1 true) r := fun r _ hr => by
    refine Ev.step (fun k => by rw [thresherref3_Take.j0]) ?_
    exact ev_pos rfl (ev_some hr.symm)
  by_cases h3 : b.1 < 0
  · exact ev_pos h3 (big _ (.inl h3) (by rw [if_pos (.inl h3)]))
  refine ev_neg h3 ?_
  by_cases h4 : b.1 > 64
  · rw [decide_eq_true h4]
    exact big _ (.inr h4) (by rw [if_pos (.inr h4)])
  rw [decide_eq_false h4, if_neg (by omega)]
  refine Ev.step (fun k => by rw [thresherref3_Take.j0]) ?_
  have e1 : wrap64 (a.2.1 + b.2.1) = a.2.1 + b.2.1 := w64 (by omega) (by omega)
  have e2 : wrap64 ((s.size : Int) - (a.2.1 + b.2.1)) = (s.size : Int) - (a.2.1 + b.2.1) := w64 (by omega) (by omega)
  have e3 : wrap64 (a.2.1 + b.2.1 + b.1) = a.2.1 + b.2.1 + b.1 := w64 (by omega) (by omega)
  simp only [e1, e2, e3]
  refine ev_neg (by simp) ?_
  by_cases h5 : (s.size : Int) - (a.2.1 + b.2.1) < b.1
  · exact ev_pos h5 (ev_some (by rw [if_pos h5]; rfl))
  · exact ev_neg (by omega) (ev_pos (by omega) (ev_pos (by omega) (ev_pos (by omega) (ev_some (by rw [if_neg h5])))))

/-! ### a key's bytes -/
def kb (A : Int) (B : ByteArray) : ByteArray := (nb A ++ nb (B.size : Int)) ++ B
theorem key_Bytes_ok (A : Int) (B : ByteArray) (hA : -9223372036854775808 ≤ A ∧ A ≤ 9223372036854775807) (hB : B.size ≤ 64) : Ev (fun k => key_Bytes.f k A B) (kb A B, 0) := by
  have a1 := nb_size A hA.1 hA.2
  have a2 := nb_size (B.size : Int) (by omega) (by omega)
  unfold key_Bytes.f
  refine ev_one (a := 0) (by unfold key_Check.f; rw [if_neg (by omega)]) (ev_pos rfl ?_)
  exact Ev.bind (num_Bytes_ev A hA.1 hA.2) (Ev.bind (num_Bytes_ev _ (by omega) (by omega)) (ev_pos (by omega) (ev_pos (by omega) (ev_some rfl))))
theorem key_Bytes_bad (A : Int) (B : ByteArray) (hB : ¬ B.size ≤ 64) : Ev (fun k => key_Bytes.f k A B) (no, 1) := by
  unfold key_Bytes.f
  exact ev_one (a := 1) (by unfold key_Check.f; rw [if_pos (by omega)]) (ev_neg (by decide) (ev_some rfl))
theorem ref_KBytes_ok (A : Int) (B : ByteArray) (hA : -9223372036854775808 ≤ A ∧ A ≤ 9223372036854775807) (hB : B.size ≤ 64) : Ev (fun k => thresherref3_Bytes.f k A B) (kb A B) := by
  have a1 := nb_size A hA.1 hA.2
  have a2 := nb_size (B.size : Int) (by omega) (by omega)
  unfold thresherref3_Bytes.f
  exact Ev.bind (ref_Bytes_ev A hA.1 hA.2) (Ev.bind (ref_Bytes_ev _ (by omega) (by omega)) (ev_pos (by omega) (ev_pos (by omega) (ev_some rfl))))
theorem kb_size (A : Int) (B : ByteArray) : (kb A B).size = (nb A).size + (nb (B.size : Int)).size + B.size := by
  simp [kb, ByteArray.size_append]
theorem kb_list (A : Int) (B : ByteArray) : (kb A B).data.toList = (nb A).data.toList ++ ((nb (B.size : Int)).data.toList ++ B.data.toList) := by
  simp [kb, ByteArray.data_append]
theorem takeK_kb (A : Int) (B X : ByteArray) (hA : -9223372036854775808 ≤ A ∧ A ≤ 9223372036854775807) (hB : B.size ≤ 64) : takeK (kb A B ++ X) = (A, B, ((kb A B).size : Int), 0) := by
  have hl : (kb A B ++ X).data.toList = (nb A).data.toList ++ ((nb (B.size : Int)).data.toList ++ (B.data.toList ++ X.data.toList)) := by
    rw [ByteArray.data_append, Array.toList_append, kb_list]
    simp
  have e1 : dec 0 0 (kb A B ++ X).data.toList = (A, ((nb A).size : Int), 0) := by
    rw [hl]
    exact dec_nb A _ hA.1 hA.2
  have e2 : dec 0 0 ((kb A B ++ X).data.toList.drop (nb A).size) = ((B.size : Int), ((nb (B.size : Int)).size : Int), 0) := by
    rw [hl, ← data_length, List.drop_left]
    exact dec_nb _ _ (by omega) (by omega)
  have hz := kb_size A B
  have hz2 : (kb A B ++ X).size = (kb A B).size + X.size := ByteArray.size_append
  unfold takeK
  rw [e1]
  simp only [Int.toNat_natCast]
  rw [if_pos trivial, e2]
  simp only
  rw [if_pos trivial, if_neg (by omega), if_neg (by omega)]
  have hx : (kb A B ++ X).extract ((nb A).size + (nb (B.size : Int)).size) ((nb A).size + (nb (B.size : Int)).size + B.size) = B := by
    unfold kb
    have hs : (nb A ++ nb (B.size : Int)).size = (nb A).size + (nb (B.size : Int)).size := ByteArray.size_append
    rw [ByteArray.append_assoc, ← hs]
    have := ByteArray.extract_append_size_add (a := nb A ++ nb (B.size : Int)) (b := B ++ X) (i := 0) (j := B.size)
    rw [Nat.add_zero] at this
    rw [this, ByteArray.extract_append_eq_left rfl]
  rw [show (((nb A).size : Int) + ((nb (B.size : Int)).size : Int)).toNat = (nb A).size + (nb (B.size : Int)).size by omega, show (((nb A).size : Int) + ((nb (B.size : Int)).size : Int) + (B.size : Int)).toNat = (nb A).size + (nb (B.size : Int)).size + B.size by omega, hx]
  rw [show ((nb A).size : Int) + ((nb (B.size : Int)).size : Int) + (B.size : Int) = ((kb A B).size : Int) by omega]
theorem takeK_cut (A : Int) (B : ByteArray) (j : Nat) (hA : -9223372036854775808 ≤ A ∧ A ≤ 9223372036854775807) (hB : B.size ≤ 64) (hj : j < (kb A B).size) : (takeK ((kb A B).extract 0 j)).2.2.2 = 6 := by
  have hz := kb_size A B
  have hl : ((kb A B).extract 0 j).data.toList = ((nb A).data.toList ++ ((nb (B.size : Int)).data.toList ++ B.data.toList)).take j := by
    rw [ext_take, kb_list]
  have hs : ((kb A B).extract 0 j).size = j := by rw [ByteArray.size_extract]; omega
  by_cases h1 : j < (nb A).size
  · have e1 : dec 0 0 ((kb A B).extract 0 j).data.toList = (0, 0, 6) := by
      rw [hl, List.take_append_of_le_length (by rw [data_length]; omega)]
      exact dec_cut_nb A j hA.1 hA.2 h1
    unfold takeK
    rw [e1]
    rfl
  obtain ⟨i, rfl⟩ : ∃ i, j = (nb A).size + i := ⟨j - (nb A).size, by omega⟩
  have e1 : dec 0 0 ((kb A B).extract 0 ((nb A).size + i)).data.toList = (A, ((nb A).size : Int), 0) := by
    rw [hl, ← data_length (nb A), List.take_length_add_append]
    rw [dec_nb A _ hA.1 hA.2, data_length]
  have hd : ((kb A B).extract 0 ((nb A).size + i)).data.toList.drop (nb A).size = ((nb (B.size : Int)).data.toList ++ B.data.toList).take i := by
    rw [hl, ← data_length (nb A), List.take_length_add_append, List.drop_left]
  unfold takeK
  rw [e1]
  simp only [Int.toNat_natCast]
  rw [if_pos trivial, hd]
  by_cases h2 : i < (nb (B.size : Int)).size
  · have e2 : dec 0 0 (((nb (B.size : Int)).data.toList ++ B.data.toList).take i) = (0, 0, 6) := by
      rw [List.take_append_of_le_length (by rw [data_length]; omega)]
      exact dec_cut_nb _ i (by omega) (by omega) h2
    rw [e2]
    rfl
  · obtain ⟨m, rfl⟩ : ∃ m, i = (nb (B.size : Int)).size + m := ⟨i - (nb (B.size : Int)).size, by omega⟩
    have e2 : dec 0 0 (((nb (B.size : Int)).data.toList ++ B.data.toList).take ((nb (B.size : Int)).size + m)) = ((B.size : Int), ((nb (B.size : Int)).size : Int), 0) := by
      rw [← data_length (nb (B.size : Int)), List.take_length_add_append]
      rw [dec_nb _ _ (by omega) (by omega), data_length]
    rw [e2]
    simp only
    rw [if_pos trivial, if_neg (by omega), if_pos (by rw [hs]; omega)]

/-! ### the law -/
def tot (l : List S30) : Nat := (l.map (·.f1.size)).sum
theorem rd_getD (l : List S30) (i : Nat) : rd_T30 l (i : Int) = l.getD i z30 := by
  simp [rd_T30]
theorem getD_mem (l : List S30) (i : Nat) (h : i < l.length) : l.getD i z30 ∈ l := by
  rw [List.getD_eq_getElem?_getD, List.getElem?_eq_getElem h]
  exact List.getElem_mem h
theorem weight_l0 (l : List S30) (hb : ∀ x ∈ l, x.f1.size ≤ 140737488351232) (hl : l.length ≤ 140737488351232) (d : Nat) : ∀ (i n : Nat), i + d = l.length → n ≤ 140737490000000 → ∃ r : Nat, Ev (fun k => thresherlaw0_KeysWeight.l0 k l (n : Int) (i : Int)) (r : Int) ∧ n ≤ r := by
  induction d with
  | zero =>
    intro i n hd hn
    exact ⟨n, Ev.step (fun k => by rw [thresherlaw0_KeysWeight.l0]) (ev_neg (by omega) (ev_some rfl)), Nat.le_refl _⟩
  | succ d ih =>
    intro i n hd hn
    by_cases h : n < 1048576
    · have hi : i < l.length := by omega
      have hx := hb _ (getD_mem l i hi)
      obtain ⟨r, hr, h1⟩ := ih (i + 1) (n + (l.getD i z30).f1.size) (by omega) (by omega)
      refine ⟨r, Ev.step (fun k => by rw [thresherlaw0_KeysWeight.l0]) (ev_pos (by omega) (ev_pos (by omega) (ev_pos (by omega) ?_))), by omega⟩
      rw [rd_getD, w64 (x := (i : Int) + 1) (by omega) (by omega), w64 (by omega) (by omega), show (i : Int) + 1 = ((i + 1 : Nat) : Int) by omega, show (n : Int) + ((l.getD i z30).f1.size : Int) = ((n + (l.getD i z30).f1.size : Nat) : Int) by omega]
      exact hr
    · exact ⟨n, Ev.step (fun k => by rw [thresherlaw0_KeysWeight.l0]) (ev_pos (by omega) (ev_neg (by omega) (ev_some rfl))), Nat.le_refl _⟩
theorem heavy_ev (l : List S30) (x : ByteArray) (hb : ∀ x ∈ l, x.f1.size ≤ 140737488351232) (hl : l.length ≤ 10000000000000) : ∃ b : Bool, Ev (fun k => thresherlaw3_heavy.f k l x) b ∧ (b = false → l.length ≤ 200 ∧ x.size ≤ 3000) := by
  obtain ⟨r, hr, h1⟩ := weight_l0 l hb (by omega) l.length 0 l.length (by omega) (by omega)
  have hw : Ev (fun k => thresherlaw0_KeysWeight.f k l) (r : Int) := hr
  by_cases h : (r : Int) > 8000
  · exact ⟨true, Ev.bind hw (ev_pos h (ev_some rfl)), fun h => by cases h⟩
  · by_cases h2 : (l.length : Int) > 200
    · exact ⟨true, Ev.bind hw (ev_neg h (ev_pos h2 (ev_some rfl))), fun h => by cases h⟩
    · refine ⟨decide ((x.size : Int) > 3000), Ev.bind hw (ev_neg h (ev_neg h2 (ev_some rfl))), fun hf => ?_⟩
      have hx : ¬ ((x.size : Int) > 3000) := by simpa using hf
      omega
theorem wakes_ev : Ev (fun k => thresherlaw3_wakes.f k) true := by
  unfold thresherlaw3_wakes.f key_Cmp.f
  have h1 : cmp_Compare_int64.f 1 1 = some 0 := by decide
  have h2 : cmp_Compare_string.f (⟨#[98]⟩ : ByteArray) (⟨#[97]⟩ : ByteArray) = some 1 := by
    unfold cmp_Compare_string.f cmp_isNaN_string.f
    simp only [ByteArray.toList_eq]
    decide
  have h3 : Ev (fun k => cmp_Or_int.f k ([0, 1] : List Int)) 1 := by
    refine ⟨3, fun k hk => ?_⟩
    obtain ⟨m, rfl⟩ : ∃ m, k = m + 3 := ⟨k - 3, by omega⟩
    simp [cmp_Or_int.f, cmp_Or_int.l0, rd, wrap64]
  refine Ev.bind (a := (1 : Int)) ?_ (ev_some rfl)
  exact ev_one h1 (ev_one h2 (Ev.bind h3 (ev_some rfl)))
theorem cuts_l1 (x3 : Int) (A : Int) (B : ByteArray) (p : List S30) (q : ByteArray) (hA : -9223372036854775808 ≤ A ∧ A ≤ 9223372036854775807) (hB : B.size ≤ 64) (h : Ev (fun k => thresherlaw3_KeyBytes.l0 k (wrap64 (x3 + 1)) p q) true) (d : Nat) : ∀ j : Nat, j + d = (kb A B).size → Ev (fun k => thresherlaw3_KeyBytes.l1 k x3 (kb A B) (j : Int) p q) true := by
  have a1 := nb_size A hA.1 hA.2
  have a2 := nb_size (B.size : Int) (by omega) (by omega)
  have hz := kb_size A B
  induction d with
  | zero =>
    intro j hd
    exact Ev.step (fun k => by rw [thresherlaw3_KeyBytes.l1]) (ev_neg (by omega) h)
  | succ d ih =>
    intro j hd
    have hx : ((kb A B).extract 0 j).size ≤ 9223372036854770000 := by rw [ByteArray.size_extract]; omega
    refine Ev.step (fun k => by rw [thresherlaw3_KeyBytes.l1]) ?_
    refine ev_pos (by omega) (ev_pos (by omega) (ev_pos (by omega) ?_))
    refine Ev.bind (key_Take_ev ((kb A B).extract 0 j) hx) ?_
    refine ev_one (a := (6 : Int)) (congrArg some (takeK_cut A B j hA hB (by omega))) (ev_pos rfl ?_)
    rw [w64 (x := (j : Int) + 1) (by omega) (by omega), show (j : Int) + 1 = ((j + 1 : Nat) : Int) by omega]
    exact ih (j + 1) (by omega)
theorem same (t : Int × ByteArray × Int × Int) : (t.1 == t.1 && (t.2.1.toList == t.2.1.toList)) = true := by
  simp
theorem l0_ev (p : List S30) (q : ByteArray) (hp : p.length ≤ 200) (hq : q.size ≤ 3000) (hx : ∀ x ∈ p, -9223372036854775808 ≤ x.f0 ∧ x.f0 ≤ 9223372036854775807) (d : Nat) : ∀ i : Nat, i + d = p.length → Ev (fun k => thresherlaw3_KeyBytes.l0 k (i : Int) p q) true := by
  have last : ∀ i : Int, Ev (fun k => thresherlaw3_KeyBytes.j1 k i false p q) true := fun i => by
    refine Ev.step (fun k => by rw [thresherlaw3_KeyBytes.j1]) ?_
    refine ev_neg (by simp) (Ev.bind (key_Take_ev q (by omega)) (Ev.bind (ref_TakeK_ev q (by omega)) ?_))
    refine ev_pos (same _) (ev_pos rfl ?_)
    exact ev_one (a := (takeK q).2.2.2) rfl (ev_pos rfl (Ev.bind wakes_ev (ev_some rfl)))
  induction d with
  | zero =>
    intro i hd
    exact Ev.step (fun k => by rw [thresherlaw3_KeyBytes.l0]) (ev_neg (by omega) (last _))
  | succ d ih =>
    intro i hd
    have next : Ev (fun k => thresherlaw3_KeyBytes.l0 k (wrap64 ((i : Int) + 1)) p q) true := by
      rw [w64 (x := (i : Int) + 1) (by omega) (by omega), show (i : Int) + 1 = ((i + 1 : Nat) : Int) by omega]
      exact ih (i + 1) (by omega)
    refine Ev.step (fun k => by rw [thresherlaw3_KeyBytes.l0]) (ev_pos (by omega) ?_)
    by_cases h15 : (i : Int) < 15
    · rw [decide_eq_true h15]
      have hm := hx _ (getD_mem p i (by omega))
      rw [← rd_getD] at hm
      refine Ev.step (fun k => by rw [thresherlaw3_KeyBytes.j1]) (ev_pos rfl (ev_pos (by omega) (ev_pos (by omega) ?_)))
      generalize hy : rd_T30 p (i : Int) = y at hm
      by_cases h : y.f1.size ≤ 64
      · have a1 := nb_size y.f0 hm.1 hm.2
        have a2 := nb_size (y.f1.size : Int) (by omega) (by omega)
        have hz := kb_size y.f0 y.f1
        have hz2 : (kb y.f0 y.f1 ++ q).size = (kb y.f0 y.f1).size + q.size := ByteArray.size_append
        refine Ev.bind (key_Bytes_ok _ _ hm h) (ev_one (a := true) (by unfold thresherref3_Key.f; rw [decide_eq_true (by omega)]) (ev_pos rfl (Ev.bind (ref_KBytes_ok _ _ hm h) ?_)))
        refine Ev.step (fun k => by rw [thresherlaw3_KeyBytes.j2]) (ev_pos (by omega) (ev_pos (by omega) ?_))
        rw [hy]
        refine ev_one (a := (0 : Int)) (by unfold key_Check.f; rw [if_neg (by omega)]) ?_
        refine ev_one (a := (0 : Int)) rfl ?_
        refine ev_pos rfl ?_
        refine ev_one (a := (0 : Int)) rfl ?_
        refine ev_pos rfl ?_
        refine Ev.step (fun k => by rw [thresherlaw3_KeyBytes.j3]) ?_
        refine ev_neg (by simp) (ev_pos rfl ?_)
        refine ev_pos (by show (kb y.f0 y.f1).size + q.size ≤ _; omega) ?_
        refine Ev.bind (key_Take_ev (kb y.f0 y.f1 ++ q) (by omega)) ?_
        rw [takeK_kb _ _ _ hm h]
        refine ev_one (a := (0 : Int)) rfl (ev_pos rfl (ev_pos (by omega) (ev_pos (by omega) ?_)))
        rw [hy]
        refine ev_neg (by simp) ?_
        refine Ev.step (fun k => by rw [thresherlaw3_KeyBytes.j4]) ?_
        refine ev_neg (by simp) ?_
        exact cuts_l1 (i : Int) y.f0 y.f1 p q hm h next (kb y.f0 y.f1).size 0 (by omega)
      · refine Ev.bind (key_Bytes_bad _ _ h) (ev_one (a := false) (by unfold thresherref3_Key.f; rw [decide_eq_false (by omega)]) (ev_neg (by simp) ?_))
        refine Ev.step (fun k => by rw [thresherlaw3_KeyBytes.j2]) (ev_pos (by omega) (ev_pos (by omega) ?_))
        rw [hy]
        refine ev_one (a := (1 : Int)) (by unfold key_Check.f; rw [if_pos (by omega)]) ?_
        refine ev_one (a := (1 : Int)) rfl ?_
        refine ev_pos rfl ?_
        refine ev_one (a := (1 : Int)) rfl ?_
        refine ev_pos rfl ?_
        refine Ev.step (fun k => by rw [thresherlaw3_KeyBytes.j3]) ?_
        exact ev_neg (by simp [no]) (ev_neg (by decide) next)
    · rw [decide_eq_false h15]
      exact last _
theorem pure (x : S24) (hok : okS24 x) : ∃ k, thresherlaw3_KeyBytes.f k x.f0 x.f1 = some true := by
  refine Ev.rounds ?_
  obtain ⟨⟨hl, hx⟩, hs⟩ := hok
  obtain ⟨b, hb, hn⟩ := heavy_ev x.f0 x.f1 (fun e he => (hx e he).2) (by omega)
  unfold thresherlaw3_KeyBytes.f
  refine Ev.bind hb ?_
  by_cases h : b = true
  · exact ev_pos h (ev_some rfl)
  · have hh := hn (by simpa using h)
    exact ev_neg h (l0_ev x.f0 x.f1 hh.1 hh.2 (fun y hy => (hx y hy).1) x.f0.length 0 (by omega))
end Go.Proofs.Ytilnobfpkepdbaa.KeyBytesPure
