/- What the printed functions of sums and frames come to: the program's and the reference's alike. -/
import Derived.Test.YtjboibdoelkfpaaQ7
import Derived.Test.YtjboibdoelkfpaaQ3
import Derived.Test.YtjboibdoelkfpaaQ2
import Derived.Test.YtjboibdoelkfpaaQ6
import Derived.Test.YtjboibdoelkfpaaNumPure
namespace Go.Proofs.Ytjboibdoelkfpaa.FtakePure
open Go Go.RowKit Go.Proofs.YtjboibdoelkfpaaW.PrintWords Go.Proofs.YtjboibdoelkfpaaW.PrintMore Go.Proofs.Ytjboibdoelkfpaa.Num7 Go.Proofs.Ytjboibdoelkfpaa.Bits7 Go.Proofs.Ytjboibdoelkfpaa.NumPure Go.Proofs.Ytjboibdoelkfpaa.Q

theorem bits_u32 (op : BinOp) (a b : Int) : 0 ≤ bits op .u32 a b ∧ bits op .u32 a b < 4294967296 := by
  unfold bits
  simp only [IntKind.wrap_u32']
  omega
/-! ### the sum -/
def turnI (c : Int) : Int := bits .xor .u32 (c / 2) (bits .and .u32 ((-(bits .and .u32 c 1)) % 4294967296) 3988292384)
theorem turn_range (c : Int) : 0 ≤ turnI c ∧ turnI c < 4294967296 := bits_u32 _ _ _
theorem turn_even (c : Int) (h1 : 0 ≤ c) (h2 : c < 4294967296) (h : bits .and .u32 c 1 ≠ 1) : turnI c = c / 2 := by
  have e : bits .and .u32 c 1 = c % 2 := by
    rw [u32_and c 1 h1 h2 (by omega) (by omega), show (1 : Int).toNat = 1 from rfl, nat_mask1]
    omega
  unfold turnI
  rw [e] at h ⊢
  have h0 : c % 2 = 0 := by omega
  rw [h0, show (-(0 : Int)) % 4294967296 = 0 from rfl, u32_and 0 _ (by omega) (by omega) (by omega) (by omega), u32_xor (c / 2) _ (by omega) (by omega) (by simp) (by simp)]
  simp
  omega
theorem turn_odd (c : Int) (h : bits .and .u32 c 1 = 1) : turnI c = bits .xor .u32 (c / 2) 3988292384 := by
  unfold turnI
  rw [h, show (-(1 : Int)) % 4294967296 = 4294967295 from rfl, u32_and _ _ (by omega) (by omega) (by omega) (by omega)]
  congr 1
def turns : Nat → Int → Int
  | 0, c => c
  | n + 1, c => turns n (turnI c)
def sumFrom : Int → List UInt8 → Int
  | c, [] => c
  | c, b :: l => sumFrom (turns 8 (bits .xor .u32 c (b.toNat : Int))) l
def sumOf (s : ByteArray) : Int := bits .xor .u32 4294967295 (sumFrom 4294967295 s.data.toList)
theorem sumOf_range (s : ByteArray) : 0 ≤ sumOf s ∧ sumOf s < 4294967296 := bits_u32 _ _ _

theorem sum_l1 (s : ByteArray) (r : Int) (at_ : Nat) (d : Nat) : ∀ (j : Nat) (c : Int), j + d = 8 → Ev (fun k => sum_Sum.l0 k s (turns d c) (s.size : Int) (wrap64 ((at_ : Int) + 1))) r → Ev (fun k => sum_Sum.l1 k s c (s.size : Int) (at_ : Int) (j : Int)) r := by
  induction d with
  | zero =>
    intro j c hj h
    refine Ev.step (fun k => by rw [sum_Sum.l1]) (ev_neg (by omega) ?_)
    exact h
  | succ d ih =>
    intro j c hj h
    refine Ev.step (fun k => by rw [sum_Sum.l1]) (ev_pos (by omega) (ev_one (a := turnI c) (by unfold sum_turn.f; rfl) ?_))
    have := ih (j + 1) (turnI c) (by omega) h
    rw [w64 (x := (j : Int) + 1) (by omega) (by omega), show (j : Int) + 1 = ((j + 1 : Nat) : Int) by omega]
    exact this
theorem sum_l0 (s : ByteArray) (hs : s.size ≤ 9223372036854775806) (d : Nat) : ∀ (i : Nat) (c : Int), i + d = s.size → Ev (fun k => sum_Sum.l0 k s c (s.size : Int) (i : Int)) (bits .xor .u32 4294967295 (sumFrom c (s.data.toList.drop i))) := by
  induction d with
  | zero =>
    intro i c hd
    refine Ev.step (fun k => by rw [sum_Sum.l0]) (ev_neg (by omega) (ev_some ?_))
    rw [drop_nil s i (by omega), sumFrom]
  | succ d ih =>
    intro i c hd
    refine Ev.step (fun k => by rw [sum_Sum.l0]) (ev_pos (by omega) (ev_pos (by omega) (ev_pos (by omega) ?_)))
    refine sum_l1 s _ i 8 0 _ (by omega) ?_
    rw [w64 (x := (i : Int) + 1) (by omega) (by omega), show (i : Int) + 1 = ((i + 1 : Nat) : Int) by omega, drop_cons s i (by omega), sumFrom, bt_list]
    have hb := u8_lt (s.data.toList.getD i 0)
    rw [Int.emod_eq_of_lt (by omega) (by omega)]
    exact ih (i + 1) _ (by omega)
theorem sum_ev (s : ByteArray) (hs : s.size ≤ 9223372036854775806) : Ev (fun k => sum_Sum.f k s) (sumOf s) := by
  unfold sum_Sum.f
  exact sum_l0 s hs s.size 0 _ (by omega)
theorem rsum_l1 (s : ByteArray) (r : Int) (at_ : Nat) (d : Nat) : ∀ (j : Nat) (c : Int), j + d = 8 → 0 ≤ c → c < 4294967296 → Ev (fun k => thresherref1_Sum.l0 k s (turns d c) (wrap64 ((at_ : Int) + 1))) r → Ev (fun k => thresherref1_Sum.l1 k s c (at_ : Int) (j : Int)) r := by
  induction d with
  | zero =>
    intro j c hj _ _ h
    refine Ev.step (fun k => by rw [thresherref1_Sum.l1]) (ev_neg (by omega) ?_)
    exact h
  | succ d ih =>
    intro j c hj h1 h2 h
    refine Ev.step (fun k => by rw [thresherref1_Sum.l1]) (ev_pos (by omega) ?_)
    have := ih (j + 1) (turnI c) (by omega) (turn_range c).1 (turn_range c).2 h
    rw [w64 (x := (j : Int) + 1) (by omega) (by omega), show (j : Int) + 1 = ((j + 1 : Nat) : Int) by omega]
    by_cases ho : bits .and .u32 c 1 = 1
    · rw [turn_odd c ho] at this
      exact ev_pos ho this
    · rw [turn_even c h1 h2 ho] at this
      exact ev_neg ho this
theorem rsum_l0 (s : ByteArray) (hs : s.size ≤ 9223372036854775806) (d : Nat) : ∀ (i : Nat) (c : Int), i + d = s.size → Ev (fun k => thresherref1_Sum.l0 k s c (i : Int)) (bits .xor .u32 4294967295 (sumFrom c (s.data.toList.drop i))) := by
  induction d with
  | zero =>
    intro i c hd
    refine Ev.step (fun k => by rw [thresherref1_Sum.l0]) (ev_neg (by omega) (ev_some ?_))
    rw [drop_nil s i (by omega), sumFrom]
  | succ d ih =>
    intro i c hd
    refine Ev.step (fun k => by rw [thresherref1_Sum.l0]) (ev_pos (by omega) (ev_pos (by omega) ?_))
    refine rsum_l1 s _ i 8 0 _ (by omega) (bits_u32 _ _ _).1 (bits_u32 _ _ _).2 ?_
    rw [w64 (x := (i : Int) + 1) (by omega) (by omega), show (i : Int) + 1 = ((i + 1 : Nat) : Int) by omega, drop_cons s i (by omega), sumFrom, bt_list]
    have hb := u8_lt (s.data.toList.getD i 0)
    rw [Int.emod_eq_of_lt (by omega) (by omega)]
    exact ih (i + 1) _ (by omega)
theorem rsum_ev (s : ByteArray) (hs : s.size ≤ 9223372036854775806) : Ev (fun k => thresherref1_Sum.f k s) (sumOf s) := by
  unfold thresherref1_Sum.f
  exact rsum_l0 s hs s.size 0 _ (by omega)

/-! ### four bytes -/
def four (n : Int) : ByteArray := strOfNums ([n / 16777216 % 256, n / 65536 % 256, n / 256 % 256, n % 256] : List Int)
theorem four_size (n : Int) : (four n).size = 4 := by simp [four, strOfNums_size]
theorem four_eq (n : Int) : num_Four.f n = some (four n) := rfl
theorem rfour_eq (n : Int) : thresherref1_Four.f n = some (four n) := rfl
def fourOf (s : ByteArray) : Int := bits .or .u32 (bits .or .u32 (bits .or .u32 (bt s 0 % 4294967296 * 16777216 % 4294967296) (bt s 1 % 4294967296 * 65536 % 4294967296)) (bt s 2 % 4294967296 * 256 % 4294967296)) (bt s 3 % 4294967296)
theorem fourOf_range (s : ByteArray) : 0 ≤ fourOf s ∧ fourOf s < 4294967296 := bits_u32 _ _ _
theorem takeFour_eq (s : ByteArray) (h : 4 ≤ s.size) : num_TakeFour.f s = some (fourOf s, 0) := by
  unfold num_TakeFour.f
  rw [if_neg (by omega), if_pos (by omega), if_pos (by omega), if_pos (by omega), if_pos (by omega)]
  rfl
theorem rtakeFour_eq (s : ByteArray) (h : 4 ≤ s.size) : thresherref1_TakeFour.f s = some (fourOf s, true) := by
  unfold thresherref1_TakeFour.f
  rw [if_neg (by omega), if_pos (by omega), if_pos (by omega), if_pos (by omega), if_pos (by omega)]
  rfl

/-! ### frames -/
def frame (s : ByteArray) : ByteArray := (four (s.size : Int) ++ four (sumOf (four (s.size : Int) ++ s))) ++ s
theorem frame_size (s : ByteArray) : (frame s).size = 8 + s.size := by simp [frame, four_size, ByteArray.size_append]
theorem frame_Bytes_ev (s : ByteArray) (hs : s.size ≤ 32768) : Ev (fun k => frame_Bytes.f k s) (frame s, 0) := by
  unfold frame_Bytes.f
  refine ev_neg (by omega) (ev_one (four_eq _) ?_)
  rw [show (s.size : Int) % 4294967296 = (s.size : Int) by omega]
  have h4 := four_size (s.size : Int)
  refine ev_pos (by omega) (Ev.bind (sum_ev _ (by rw [ByteArray.size_append]; omega)) (ev_one (four_eq _) ?_))
  have h5 := four_size (sumOf (four (s.size : Int) ++ s))
  exact ev_pos (by omega) (ev_pos (by omega) (ev_some rfl))
theorem ref_Frame_ev (s : ByteArray) (hs : s.size ≤ 4294967295) : Ev (fun k => thresherref3_Frame.f k s) (frame s) := by
  unfold thresherref3_Frame.f
  refine ev_one (rfour_eq _) ?_
  rw [show (s.size : Int) % 4294967296 = (s.size : Int) by omega]
  have h4 := four_size (s.size : Int)
  refine ev_pos (by omega) (Ev.bind (rsum_ev _ (by rw [ByteArray.size_append]; omega)) (ev_one (rfour_eq _) ?_))
  have h5 := four_size (sumOf (four (s.size : Int) ++ s))
  exact ev_pos (by omega) (ev_pos (by omega) (ev_some rfl))

def takeF (s : ByteArray) : ByteArray × Int × Int :=
  if s.size < 8 then (⟨#[]⟩, 0, 6) else if 32768 < fourOf s then (⟨#[]⟩, 0, 2) else if (s.size : Int) - 8 < fourOf s then (⟨#[]⟩, 0, 6)
  else if sumOf (s.extract 0 4 ++ s.extract 8 (8 + fourOf s).toNat) = fourOf (s.extract 4 s.size) then (s.extract 8 (8 + fourOf s).toNat, 8 + fourOf s, 0) else (⟨#[]⟩, 0, 8)
theorem ext_size (s : ByteArray) (a b : Nat) : (s.extract a b).size = min b s.size - a := ByteArray.size_extract
theorem frame_Take_ev (s : ByteArray) (hs : s.size ≤ 9223372036854775000) : Ev (fun k => frame_Take.f k s) (takeF s) := by
  have hr := fourOf_range s
  unfold frame_Take.f takeF
  by_cases h1 : s.size < 8
  · rw [if_pos h1]
    exact ev_pos (by omega) (ev_some rfl)
  · rw [if_neg h1]
    refine ev_neg (by omega) (ev_one (takeFour_eq s (by omega)) (ev_pos (by omega) (ev_one (takeFour_eq _ (by rw [ext_size]; omega)) ?_)))
    by_cases h2 : 32768 < fourOf s
    · rw [if_pos h2]
      exact ev_pos (by simpa using h2) (ev_some rfl)
    · rw [if_neg h2]
      refine ev_neg (by simpa using h2) ?_
      have e1 : wrap64 (fourOf s) = fourOf s := w64 (by omega) (by omega)
      have e2 : wrap64 ((s.size : Int) - 8) = (s.size : Int) - 8 := w64 (by omega) (by omega)
      have e3 : wrap64 (8 + fourOf s) = 8 + fourOf s := w64 (by omega) (by omega)
      simp only [e1, e2, e3]
      by_cases h3 : (s.size : Int) - 8 < fourOf s
      · rw [if_pos h3]
        exact ev_pos (by omega) (ev_some rfl)
      · rw [if_neg h3]
        refine ev_neg (by omega) (ev_pos (by omega) (ev_pos (by omega) (ev_pos (by omega) (ev_pos (by rw [ext_size, ext_size]; omega) (Ev.bind (sum_ev _ (by rw [ByteArray.size_append, ext_size, ext_size]; omega)) ?_)))))
        by_cases h4 : sumOf (s.extract 0 4 ++ s.extract 8 (8 + fourOf s).toNat) = fourOf (s.extract 4 s.size)
        · exact ev_pos h4 (ev_some (by rw [if_pos h4]))
        · exact ev_neg h4 (ev_some (by rw [if_neg h4]))
theorem ref_TakeFrame_ev (s : ByteArray) (hs : s.size ≤ 9223372036854775000) : Ev (fun k => thresherref3_TakeFrame.f k s) (takeF s) := by
  have hr := fourOf_range s
  unfold thresherref3_TakeFrame.f takeF
  by_cases h1 : s.size < 8
  · rw [if_pos h1]
    exact ev_pos (by omega) (ev_some rfl)
  · rw [if_neg h1]
    refine ev_neg (by omega) (ev_one (rtakeFour_eq s (by omega)) ?_)
    by_cases h2 : 32768 < fourOf s
    · rw [if_pos h2]
      exact ev_pos (by simpa using h2) (ev_some rfl)
    · rw [if_neg h2]
      refine ev_neg (by simpa using h2) ?_
      have e1 : wrap64 (fourOf s) = fourOf s := w64 (by omega) (by omega)
      have e2 : wrap64 ((s.size : Int) - 8) = (s.size : Int) - 8 := w64 (by omega) (by omega)
      have e3 : wrap64 (8 + fourOf s) = 8 + fourOf s := w64 (by omega) (by omega)
      simp only [e1, e2, e3]
      by_cases h3 : (s.size : Int) - 8 < fourOf s
      · rw [if_pos h3]
        exact ev_pos (by omega) (ev_some rfl)
      · rw [if_neg h3]
        refine ev_neg (by omega) (ev_pos (by omega) (ev_one (rtakeFour_eq _ (by rw [ext_size]; omega)) (ev_pos (by omega) (ev_pos (by omega) (ev_pos (by omega) (ev_pos (by rw [ext_size, ext_size]; omega) (Ev.bind (rsum_ev _ (by rw [ByteArray.size_append, ext_size, ext_size]; omega)) ?_)))))))
        by_cases h4 : sumOf (s.extract 0 4 ++ s.extract 8 (8 + fourOf s).toNat) = fourOf (s.extract 4 s.size)
        · exact ev_pos h4 (ev_some (by rw [if_pos h4]))
        · exact ev_neg h4 (ev_some (by rw [if_neg h4]))

/-! ### a frame is read as what it holds -/
theorem or_join_u32 (u c : Nat) (i : Nat) (hu : u < 2 ^ i) (h : u + c * 2 ^ i < 4294967296) : bits .or .u32 ((c * 2 ^ i : Nat) : Int) (u : Int) = ((c * 2 ^ i + u : Nat) : Int) := by
  have hc : c * 2 ^ i < 4294967296 := by omega
  rw [u32_or _ _ (by omega) (by omega) (by omega) (by omega), Int.toNat_natCast, Int.toNat_natCast, nat_join i _ _ (Nat.mul_mod_left _ _) hu]
theorem ofNat_toNat (n : Int) (h1 : 0 ≤ n) (h2 : n < 256) : ((UInt8.ofNat n.toNat).toNat : Int) = n := by
  rw [UInt8.toNat_ofNat', Nat.mod_eq_of_lt (by omega)]
  omega
theorem four_list (n : Int) : (four n).data.toList = [UInt8.ofNat (n / 16777216 % 256).toNat, UInt8.ofNat (n / 65536 % 256).toNat, UInt8.ofNat (n / 256 % 256).toNat, UInt8.ofNat (n % 256).toNat] := by
  simp [four, strOfNums]
theorem bt_four (n : Int) (r : ByteArray) (i : Nat) (hi : i < 4) : bt (four n ++ r) (i : Int) = ([n / 16777216 % 256, n / 65536 % 256, n / 256 % 256, n % 256] : List Int).getD i 0 := by
  rw [bt_list, ByteArray.data_append, Array.toList_append, four_list]
  match i, hi with
  | 0, _ => exact ofNat_toNat _ (by omega) (by omega)
  | 1, _ => exact ofNat_toNat _ (by omega) (by omega)
  | 2, _ => exact ofNat_toNat _ (by omega) (by omega)
  | 3, _ => exact ofNat_toNat _ (by omega) (by omega)
theorem fourOf_four (n : Int) (r : ByteArray) (h1 : 0 ≤ n) (h2 : n < 4294967296) : fourOf (four n ++ r) = n := by
  have e0 : bt (four n ++ r) 0 = n / 16777216 % 256 := bt_four n r 0 (by omega)
  have e1 : bt (four n ++ r) 1 = n / 65536 % 256 := bt_four n r 1 (by omega)
  have e2 : bt (four n ++ r) 2 = n / 256 % 256 := bt_four n r 2 (by omega)
  have e3 : bt (four n ++ r) 3 = n % 256 := bt_four n r 3 (by omega)
  unfold fourOf
  rw [e0, e1, e2, e3]
  obtain ⟨m, rfl⟩ : ∃ m : Nat, n = (m : Int) := ⟨n.toNat, by omega⟩
  have a1 : bits .or .u32 ((m : Int) / 16777216 % 256 % 4294967296 * 16777216 % 4294967296) ((m : Int) / 65536 % 256 % 4294967296 * 65536 % 4294967296) = ((m / 65536 * 2 ^ 16 : Nat) : Int) := by
    have := or_join_u32 (m / 65536 % 256 * 65536) (m / 16777216 % 256) 24 (by omega) (by omega)
    rw [show (m : Int) / 16777216 % 256 % 4294967296 * 16777216 % 4294967296 = ((m / 16777216 % 256 * 2 ^ 24 : Nat) : Int) by omega, show (m : Int) / 65536 % 256 % 4294967296 * 65536 % 4294967296 = ((m / 65536 % 256 * 65536 : Nat) : Int) by omega, this]
    omega
  rw [a1]
  have a2 : bits .or .u32 ((m / 65536 * 2 ^ 16 : Nat) : Int) ((m : Int) / 256 % 256 % 4294967296 * 256 % 4294967296) = ((m / 256 * 2 ^ 8 : Nat) : Int) := by
    have := or_join_u32 (m / 256 % 256 * 256) (m / 65536) 16 (by omega) (by omega)
    rw [show (m : Int) / 256 % 256 % 4294967296 * 256 % 4294967296 = ((m / 256 % 256 * 256 : Nat) : Int) by omega, this]
    omega
  rw [a2]
  have := or_join_u32 (m % 256) (m / 256) 8 (by omega) (by omega)
  rw [show (m : Int) % 256 % 4294967296 = ((m % 256 : Nat) : Int) by omega, this]
  omega
theorem ext_left (a b : ByteArray) : (a ++ b).extract 0 a.size = a := ByteArray.extract_append_eq_left rfl
theorem ext_right (a b : ByteArray) : (a ++ b).extract a.size (a ++ b).size = b := ByteArray.extract_append_eq_right rfl ByteArray.size_append
theorem takeF_frame (s r : ByteArray) (hs : s.size ≤ 32768) : takeF (frame s ++ r) = (s, 8 + (s.size : Int), 0) := by
  have q1 := sumOf_range (four (s.size : Int) ++ s)
  have z1 := four_size (s.size : Int)
  have z2 := four_size (sumOf (four (s.size : Int) ++ s))
  have f1 : frame s ++ r = four (s.size : Int) ++ (four (sumOf (four (s.size : Int) ++ s)) ++ (s ++ r)) := by
    unfold frame
    rw [ByteArray.append_assoc, ByteArray.append_assoc]
  have e1 : fourOf (frame s ++ r) = s.size := by rw [f1]; exact fourOf_four _ _ (by omega) (by omega)
  have hz : (frame s ++ r).size = 8 + s.size + r.size := by rw [ByteArray.size_append, frame_size]
  have e2 : (frame s ++ r).extract 0 4 = four (s.size : Int) := by
    rw [f1]
    have := ext_left (four (s.size : Int)) (four (sumOf (four (s.size : Int) ++ s)) ++ (s ++ r))
    rwa [z1] at this
  have e3 : (frame s ++ r).extract 4 (frame s ++ r).size = four (sumOf (four (s.size : Int) ++ s)) ++ (s ++ r) := by
    rw [f1]
    have := ext_right (four (s.size : Int)) (four (sumOf (four (s.size : Int) ++ s)) ++ (s ++ r))
    rwa [z1] at this
  have e4 : (frame s ++ r).extract 8 (8 + s.size) = s := by
    unfold frame
    have hA : (four (s.size : Int) ++ four (sumOf (four (s.size : Int) ++ s))).size = 8 := by rw [ByteArray.size_append]; omega
    generalize (four (s.size : Int) ++ four (sumOf (four (s.size : Int) ++ s))) = A at hA
    rw [ByteArray.append_assoc, ← hA]
    have := ByteArray.extract_append_size_add (a := A) (b := s ++ r) (i := 0) (j := s.size)
    rw [Nat.add_zero] at this
    rw [this, ByteArray.extract_append_eq_left rfl]
  unfold takeF
  rw [if_neg (by omega), e1, if_neg (by omega), if_neg (by omega), e2, e3, show (8 + (s.size : Int)).toNat = 8 + s.size by omega, e4, fourOf_four _ _ q1.1 q1.2, if_pos rfl]
end Go.Proofs.Ytjboibdoelkfpaa.FtakePure
