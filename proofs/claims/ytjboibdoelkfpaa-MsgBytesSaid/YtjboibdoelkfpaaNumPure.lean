/- What the printed functions of numbers as bytes come to: the program's and the reference's alike. -/
import Derived.Test.YtjboibdoelkfpaaQ4
import Derived.Test.YtjboibdoelkfpaaQ6
import Derived.Test.YtjboibdoelkfpaaQ8
import Derived.Test.YtjboibdoelkfpaaQ3
import Derived.Test.YtjboibdoelkfpaaBits7
namespace Go.Proofs.Ytjboibdoelkfpaa.NumPure
open Go Go.RowKit Go.Proofs.YtjboibdoelkfpaaW.PrintWords Go.Proofs.YtjboibdoelkfpaaW.PrintMore Go.Proofs.Ytjboibdoelkfpaa.Num7 Go.Proofs.Ytjboibdoelkfpaa.Bits7 Go.Proofs.Ytjboibdoelkfpaa.Q

theorem pow128 (i : Nat) : (128 : Nat) ^ i = 2 ^ (7 * i) := by
  rw [Nat.pow_mul]
theorem bt_list (s : ByteArray) (i : Nat) : bt s (i : Int) = ((s.data.toList.getD i 0).toNat : Int) := by
  unfold bt
  split
  · rename_i h
    rw [List.getD_eq_getElem?_getD, List.getElem?_eq_getElem (by rw [data_length]; simpa using h)]
    simp
    rfl
  · rename_i h
    rw [List.getD_eq_getElem?_getD, List.getElem?_eq_none (by rw [data_length]; simp at h; omega)]
    rfl
theorem drop_cons (s : ByteArray) (i : Nat) (h : i < s.size) : s.data.toList.drop i = s.data.toList.getD i 0 :: s.data.toList.drop (i + 1) := by
  have e : i < s.data.toList.length := by rw [data_length]; exact h
  rw [List.drop_eq_getElem_cons e, List.getD_eq_getElem?_getD, List.getElem?_eq_getElem e]
  rfl
theorem drop_nil (s : ByteArray) (i : Nat) (h : ¬ i < s.size) : s.data.toList.drop i = [] := by
  apply List.drop_eq_nil_of_le
  rw [data_length]
  omega
theorem u8_lt (b : UInt8) : b.toNat < 256 := b.toNat_lt
theorem pow_le9 (i : Nat) (hi : i ≤ 9) : (128 : Nat) ^ i ≤ 9223372036854775808 := by
  have := Nat.pow_le_pow_right (n := 128) (by omega) hi
  have h3 : (128 : Nat) ^ 9 = 9223372036854775808 := by decide
  omega
theorem pow_le8 (i : Nat) (hi : i ≤ 8) : (128 : Nat) ^ i ≤ 72057594037927936 := by
  have := Nat.pow_le_pow_right (n := 128) (by omega) hi
  have h3 : (128 : Nat) ^ 8 = 72057594037927936 := by decide
  omega
theorem digit_le (c i : Nat) (hi : i ≤ 9) (h9 : i = 9 → c ≤ 1) : c % 128 * 128 ^ i ≤ 9223372036854775808 := by
  by_cases h : i = 9
  · subst h
    have := h9 rfl
    have h3 : (128 : Nat) ^ 9 = 9223372036854775808 := by decide
    rw [h3]
    omega
  · have h1 := pow_le8 i (by omega)
    have h2 : c % 128 * 128 ^ i ≤ 127 * 128 ^ i := Nat.mul_le_mul_right _ (by omega)
    omega
theorem shl_eq (c i : Nat) (hi : i ≤ 9) (h : c * 128 ^ i < 18446744073709551616) : shl .u64 (c : Int) (7 * (i : Int)) = ((c * 128 ^ i : Nat) : Int) := by
  unfold shl
  rw [wrap_u64]
  have e1 : (7 * (i : Int)).toNat = 7 * i := by omega
  have e2 : IntKind.u64.bits = 64 := rfl
  rw [e1, e2, Nat.min_eq_left (by omega)]
  have e3 : (c : Int) * 2 ^ (7 * i) = ((c * 128 ^ i : Nat) : Int) := by rw [pow128, Int.natCast_mul, Int.natCast_pow]; rfl
  rw [e3]
  omega
theorem upd (c u i : Nat) (hi : i ≤ 9) (h9 : i = 9 → c ≤ 1) (hu : u < 128 ^ i) : bits .or .u64 (u : Int) (shl .u64 ((c % 128 : Nat) : Int) (7 * (i : Int))) = ((u + c % 128 * 128 ^ i : Nat) : Int) := by
  have h1 := digit_le c i hi h9
  have h2 := pow_le9 i hi
  rw [shl_eq (c % 128) i hi (by omega), pow128]
  rw [pow128] at hu h1 h2
  exact or_join_u64 u (c % 128) (7 * i) hu (by omega)
theorem upd_lt (c u i : Nat) (hu : u < 128 ^ i) : u + c % 128 * 128 ^ i < 128 ^ (i + 1) := by
  have h2 : c % 128 * 128 ^ i ≤ 127 * 128 ^ i := Nat.mul_le_mul_right _ (by omega)
  rw [Nat.pow_succ]
  omega

/-! ### num.Take -/
theorem take_l0 (s : ByteArray) (d : Nat) : ∀ (i u : Nat), i + d = s.size → i ≤ 9 → u < 128 ^ i → Ev (fun k => num_Take.l0 k s (i : Int) (u : Int)) (dec i u (s.data.toList.drop i)) := by
  induction d with
  | zero =>
    intro i u hd hi hu
    refine Ev.step (fun k => by rw [num_Take.l0]) (ev_neg (by omega) (ev_some ?_))
    rw [drop_nil s i (by omega), dec]
  | succ d ih =>
    intro i u hd hi hu
    refine Ev.step (fun k => by rw [num_Take.l0]) (ev_pos (by omega) (ev_pos (by omega) ?_))
    rw [drop_cons s i (by omega), dec]
    have hb := bt_list s i
    generalize hc : (s.data.toList.getD i 0) = c at hb ⊢
    have hc256 := u8_lt c
    rw [hb]
    have key : ∀ f : Bool, f = decide (i = 9 ∧ 1 < c.toNat) → Ev (fun k => num_Take.j1 k s (i : Int) (u : Int) (c.toNat : Int) f) (if i = 9 ∧ 1 < c.toNat then (0, 0, 7) else if 128 ≤ c.toNat then dec (i + 1) (u + c.toNat % 128 * 128 ^ i) (s.data.toList.drop (i + 1)) else if c.toNat = 0 ∧ 0 < i then (0, 0, 7) else (zag (u + c.toNat * 128 ^ i), (i : Int) + 1, 0)) := by
      intro f hf
      refine Ev.step (fun k => by rw [num_Take.j1]) ?_
      by_cases h9 : i = 9 ∧ 1 < c.toNat
      · rw [if_pos h9]
        exact ev_pos (by rw [hf]; simpa using h9) (ev_some rfl)
      · rw [if_neg h9]
        refine ev_neg (by rw [hf]; simpa using h9) ?_
        rw [and_127 _ (by omega) (by omega), wrap_u64, w64 (x := 7 * (i : Int)) (by omega) (by omega), w64 (x := (i : Int) + 1) (by omega) (by omega)]
        have e1 : (c.toNat : Int) % 128 % 18446744073709551616 = ((c.toNat % 128 : Nat) : Int) := by omega
        rw [e1, upd c.toNat u i hi (by omega) hu]
        have hlt := upd_lt c.toNat u i hu
        have hd9 := digit_le c.toNat i hi (by omega)
        have h64 : u + c.toNat % 128 * 128 ^ i < 18446744073709551616 := by have := pow_le9 i hi; omega
        refine ev_pos (by omega) ?_
        by_cases h128 : 128 ≤ c.toNat
        · rw [if_pos h128]
          refine ev_pos (by omega) ?_
          have hi8 : i ≤ 8 := by omega
          have := ih (i + 1) _ (by omega) (by omega) hlt
          rw [show ((i + 1 : Nat) : Int) = (i : Int) + 1 from by omega] at this
          exact this
        · rw [if_neg h128]
          refine ev_neg (by omega) ?_
          have hback : num_back.f ((u + c.toNat % 128 * 128 ^ i : Nat) : Int) = some (zag (u + c.toNat * 128 ^ i)) := by
            unfold num_back.f
            rw [back_eq _ h64, Nat.mod_eq_of_lt (by omega)]
          by_cases h0 : c.toNat = 0
          · refine ev_pos (by omega) ?_
            by_cases hi0 : 0 < i
            · rw [if_pos (show c.toNat = 0 ∧ 0 < i from ⟨h0, hi0⟩)]
              exact ev_pos (by omega) (ev_some rfl)
            · rw [if_neg (show ¬ (c.toNat = 0 ∧ 0 < i) by omega)]
              exact ev_neg (by omega) (ev_one hback (ev_some rfl))
          · rw [if_neg (show ¬ (c.toNat = 0 ∧ 0 < i) by omega)]
            exact ev_neg (by omega) (ev_one hback (ev_some rfl))
    by_cases h9 : i = 9
    · exact ev_pos (by omega) (key _ (by simp [h9]; omega))
    · exact ev_neg (by omega) (key _ (by simp [h9]))
theorem num_Take_ev (s : ByteArray) : Ev (fun k => num_Take.f k s) (dec 0 0 s.data.toList) := by
  unfold num_Take.f
  exact take_l0 s s.size 0 0 (by omega) (by omega) (by decide)

/-! ### thresherref1.Take -/
theorem rtake_l0 (s : ByteArray) (d : Nat) : ∀ (i u : Nat), i + d = s.size → i ≤ 9 → u < 128 ^ i → Ev (fun k => thresherref1_Take.l0 k s (u : Int) (i : Int)) (dec i u (s.data.toList.drop i)) := by
  induction d with
  | zero =>
    intro i u hd hi hu
    refine Ev.step (fun k => by rw [thresherref1_Take.l0]) (ev_pos (by omega) (ev_pos (by omega) (ev_some ?_)))
    rw [drop_nil s i (by omega), dec]
  | succ d ih =>
    intro i u hd hi hu
    refine Ev.step (fun k => by rw [thresherref1_Take.l0]) (ev_pos (by omega) (ev_neg (by omega) (ev_pos (by omega) (ev_pos (by omega) ?_))))
    rw [drop_cons s i (by omega), dec]
    have hb := bt_list s i
    generalize hc : (s.data.toList.getD i 0) = c at hb ⊢
    have hc256 := u8_lt c
    have hw : IntKind.u64.wrap (bt s (i : Int)) = (c.toNat : Int) := by rw [hb, wrap_u64]; omega
    rw [hw]
    have key : ∀ f : Bool, f = decide (i = 9 ∧ 1 < c.toNat) → Ev (fun k => thresherref1_Take.j1 k s (u : Int) (i : Int) (c.toNat : Int) f) (if i = 9 ∧ 1 < c.toNat then (0, 0, 7) else if 128 ≤ c.toNat then dec (i + 1) (u + c.toNat % 128 * 128 ^ i) (s.data.toList.drop (i + 1)) else if c.toNat = 0 ∧ 0 < i then (0, 0, 7) else (zag (u + c.toNat * 128 ^ i), (i : Int) + 1, 0)) := by
      intro f hf
      refine Ev.step (fun k => by rw [thresherref1_Take.j1]) ?_
      by_cases h9 : i = 9 ∧ 1 < c.toNat
      · rw [if_pos h9]
        exact ev_pos (by rw [hf]; simpa using h9) (ev_some rfl)
      · rw [if_neg h9]
        refine ev_neg (by rw [hf]; simpa using h9) ?_
        rw [w64 (x := 7 * (i : Int)) (by omega) (by omega), w64 (x := (i : Int) + 1) (by omega) (by omega)]
        have e1 : Int.tmod (c.toNat : Int) 128 = ((c.toNat % 128 : Nat) : Int) := by rw [Int.tmod_eq_emod_of_nonneg (by omega)]; omega
        rw [e1, upd c.toNat u i hi (by omega) hu]
        have hlt := upd_lt c.toNat u i hu
        have hd9 := digit_le c.toNat i hi (by omega)
        have h64 : u + c.toNat % 128 * 128 ^ i < 18446744073709551616 := by have := pow_le9 i hi; omega
        refine ev_pos (by omega) ?_
        by_cases h128 : 128 ≤ c.toNat
        · rw [if_pos h128]
          refine ev_neg (by omega) ?_
          have hi8 : i ≤ 8 := by omega
          have := ih (i + 1) _ (by omega) (by omega) hlt
          rw [show ((i + 1 : Nat) : Int) = (i : Int) + 1 from by omega] at this
          exact this
        · rw [if_neg h128]
          refine ev_pos (by omega) ?_
          rw [Nat.mod_eq_of_lt (by omega)] at h64 ⊢
          have j2 : ∀ f : Bool, f = decide (c.toNat = 0 ∧ 0 < i) → Ev (fun k => thresherref1_Take.j2 k ((u + c.toNat * 128 ^ i : Nat) : Int) (i : Int) f) (if c.toNat = 0 ∧ 0 < i then (0, 0, 7) else (zag (u + c.toNat * 128 ^ i), (i : Int) + 1, 0)) := by
            intro f hf
            refine Ev.step (fun k => by rw [thresherref1_Take.j2]) ?_
            by_cases h0 : c.toNat = 0 ∧ 0 < i
            · rw [if_pos h0]
              exact ev_pos (by rw [hf]; simpa using h0) (ev_some rfl)
            · rw [if_neg h0]
              refine ev_neg (by rw [hf]; simpa using h0) ?_
              generalize hm : u + c.toNat * 128 ^ i = m at h64 ⊢
              rw [and_one_u64 _ (by omega) (by omega), w64 (x := (m : Int) / 2) (by omega) (by omega), w64 (x := (i : Int) + 1) (by omega) (by omega), xor_m1_i64 _ (by omega) (by omega)]
              unfold zag
              by_cases h2 : m % 2 = 0
              · rw [if_pos h2]
                exact ev_neg (by omega) (ev_some (by congr 1))
              · rw [if_neg h2]
                exact ev_pos (by omega) (ev_some (by congr 1))
          by_cases h0 : c.toNat = 0
          · exact ev_pos (by omega) (j2 _ (by simp [h0]))
          · exact ev_neg (by omega) (j2 _ (by simp [h0]))
    by_cases h9 : i = 9
    · exact ev_pos (by omega) (key _ (by simp [h9]; omega))
    · exact ev_neg (by omega) (key _ (by simp [h9]))
theorem ref_Take_ev (s : ByteArray) : Ev (fun k => thresherref1_Take.f k s) (dec 0 0 s.data.toList) := by
  unfold thresherref1_Take.f
  exact rtake_l0 s s.size 0 0 (by omega) (by omega) (by decide)

/-! ### num.Bytes, thresherref1.Bytes -/
def ints (l : List UInt8) : List Int := l.map fun b => (b.toNat : Int)
theorem strOf_ints (l : List UInt8) : strOfNums (ints l) = ⟨l.toArray⟩ := by
  unfold strOfNums ints
  rw [List.map_map]
  congr 2
  conv => rhs; rw [← List.map_id l]
  apply List.map_congr_left
  intro b _
  simp
theorem enc7_len_le (j : Nat) : ∀ u, u < 128 ^ j → 0 < j → (enc7 u).length ≤ j := by
  induction j with
  | zero => intro u _ h; omega
  | succ j ih =>
    intro u hu _
    rw [enc7]
    split
    · simp
    · rename_i h
      have hj : 0 < j := by
        rcases Nat.eq_zero_or_pos j with h0 | h0
        · subst h0; simp at hu; omega
        · exact h0
      have := ih (u / 128) (by rw [Nat.pow_succ] at hu; omega) hj
      simp
      omega
theorem enc7_ten (u : Nat) (h : u < 18446744073709551616) : (enc7 u).length ≤ 10 := by
  refine enc7_len_le 10 u ?_ (by omega)
  have h3 : (128 : Nat) ^ 10 = 1180591620717411303424 := by decide
  omega
/-- A number's bytes. -/
def nb (n : Int) : ByteArray := ⟨(enc7 (zig n)).toArray⟩
theorem nb_size (n : Int) (h1 : -9223372036854775808 ≤ n) (h2 : n ≤ 9223372036854775807) : (nb n).size ≤ 10 := by
  have := enc7_ten _ (zig_lt n h1 h2)
  simpa [nb, ByteArray.size] using this
theorem bytes_l0 (u : Nat) : ∀ (acc : List Int), u < 18446744073709551616 → acc.length + (enc7 u).length < 140737488355328 → Ev (fun k => num_Bytes.l0 k (u : Int) acc) (strOfNums (acc ++ ints (enc7 u))) := by
  induction u using Nat.strongRecOn with
  | _ u ih =>
    intro acc hu hl
    rw [enc7] at hl ⊢
    refine Ev.step (fun k => by rw [num_Bytes.l0]) ?_
    by_cases h : u < 128
    · rw [if_pos h] at hl ⊢
      refine ev_neg (by omega) (ev_pos (by omega) (ev_some ?_))
      have e : (u : Int) % 256 = ((UInt8.ofNat u).toNat : Int) := by simp
      rw [e]
      rfl
    · rw [if_neg h] at hl ⊢
      refine ev_pos (by omega) (ev_pos (by simp at hl; omega) ?_)
      rw [or_128 _ (by omega) (by omega)]
      have e : (u : Int) % 256 % 128 + 128 = ((UInt8.ofNat (u % 128 + 128)).toNat : Int) := by simp; omega
      have := ih (u / 128) (by omega) (acc ++ [((UInt8.ofNat (u % 128 + 128)).toNat : Int)]) (by omega) (by simp at hl ⊢; omega)
      rw [e, show (u : Int) / 128 = ((u / 128 : Nat) : Int) from rfl]
      simpa [ints] using this
theorem num_Bytes_ev (n : Int) (h1 : -9223372036854775808 ≤ n) (h2 : n ≤ 9223372036854775807) : Ev (fun k => num_Bytes.f k n) (nb n) := by
  unfold num_Bytes.f
  have hz := zig_lt n h1 h2
  refine ev_one (by unfold num_turned.f; rw [turned_eq n h1 h2]) ?_
  have := bytes_l0 (zig n) [] hz (by have := enc7_ten _ hz; simp; omega)
  rw [List.nil_append, strOf_ints] at this
  exact this
theorem rbytes_l0 (u : Nat) : ∀ (acc : List Int), u < 18446744073709551616 → acc.length + (enc7 u).length < 140737488355328 → Ev (fun k => thresherref1_Bytes.l0 k (u : Int) acc) (strOfNums (acc ++ ints (enc7 u))) := by
  induction u using Nat.strongRecOn with
  | _ u ih =>
    intro acc hu hl
    rw [enc7] at hl ⊢
    refine Ev.step (fun k => by rw [thresherref1_Bytes.l0]) ?_
    by_cases h : u < 128
    · rw [if_pos h] at hl ⊢
      refine ev_neg (by omega) (ev_pos (by omega) (ev_some ?_))
      have e : (u : Int) % 256 = ((UInt8.ofNat u).toNat : Int) := by simp
      rw [e]
      rfl
    · rw [if_neg h] at hl ⊢
      refine ev_pos (by omega) (ev_pos (by simp at hl; omega) ?_)
      have e : IntKind.u64.wrap (Int.tmod (u : Int) 128 + 128) % 256 = ((UInt8.ofNat (u % 128 + 128)).toNat : Int) := by
        rw [Int.tmod_eq_emod_of_nonneg (by omega), wrap_u64]; simp <;> omega
      have e2 : IntKind.u64.wrap (Int.tdiv (u : Int) 128) = ((u / 128 : Nat) : Int) := by
        rw [Int.tdiv_eq_ediv_of_nonneg (by omega), wrap_u64]; omega
      have := ih (u / 128) (by omega) (acc ++ [((UInt8.ofNat (u % 128 + 128)).toNat : Int)]) (by omega) (by simp at hl ⊢; omega)
      rw [e, e2]
      simpa [ints] using this
theorem ref_Bytes_ev (n : Int) (h1 : -9223372036854775808 ≤ n) (h2 : n ≤ 9223372036854775807) : Ev (fun k => thresherref1_Bytes.f k n) (nb n) := by
  unfold thresherref1_Bytes.f
  have hz := zig_lt n h1 h2
  have go : ∀ x : Int, x = (zig n : Int) → Ev (fun k => thresherref1_Bytes.j0 k x) (nb n) := by
    rintro x rfl
    refine Ev.step (fun k => by rw [thresherref1_Bytes.j0]) ?_
    have := rbytes_l0 (zig n) [] hz (by have := enc7_ten _ hz; simp; omega)
    rw [List.nil_append, strOf_ints] at this
    exact this
  by_cases h : n < 0
  · refine ev_pos h (go _ ?_)
    have e1 : IntKind.u64.wrap (IntKind.u64.wrap n * 2) = n * 2 % 18446744073709551616 := by rw [wrap_u64, wrap_u64]; omega
    rw [e1, ones_xor_u64 _ (by omega) (by omega)]
    unfold zig
    rw [if_neg (by omega)]
    omega
  · refine ev_neg h (go _ ?_)
    rw [wrap_u64, wrap_u64]
    unfold zig
    rw [if_pos (by omega)]
    omega

/-- A number's bytes are read as the number, whatever stands behind. -/
theorem dec_nb (n : Int) (rest : List UInt8) (h1 : -9223372036854775808 ≤ n) (h2 : n ≤ 9223372036854775807) : dec 0 0 ((nb n).data.toList ++ rest) = (n, ((nb n).size : Int), 0) := by
  have := dec_enc7 (zig n) 0 0 rest (by have := zig_lt n h1 h2; simpa using this) (.inl rfl)
  rw [show ((nb n).data.toList : List UInt8) = enc7 (zig n) from rfl, this]
  simp [zag_zig, nb, ByteArray.size]
end Go.Proofs.Ytjboibdoelkfpaa.NumPure
