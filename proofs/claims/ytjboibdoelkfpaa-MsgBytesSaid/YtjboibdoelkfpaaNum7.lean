/- Numbers as bytes, as plain mathematics: zig and zag turn a number and undo it, enc7 tells its bytes, dec reads them; they undo each other. -/
namespace Go.Proofs.Ytjboibdoelkfpaa.Num7

def zig (n : Int) : Nat := if 0 ≤ n then (2 * n).toNat else (-2 * n - 1).toNat
def zag (u : Nat) : Int := if u % 2 = 0 then ((u / 2 : Nat) : Int) else -((u / 2 : Nat) : Int) - 1
theorem zag_zig (n : Int) : zag (zig n) = n := by
  unfold zag zig
  split <;> split <;> omega
theorem zig_lt (n : Int) (h1 : -9223372036854775808 ≤ n) (h2 : n ≤ 9223372036854775807) : zig n < 18446744073709551616 := by
  unfold zig
  split <;> omega

def enc7 (u : Nat) : List UInt8 := if u < 128 then [UInt8.ofNat u] else UInt8.ofNat (u % 128 + 128) :: enc7 (u / 128)
termination_by u
decreasing_by omega

/-- What any bytes begin with: the number, how many bytes, the error (0: none, 6: cut, 7: bad). -/
def dec : Nat → Nat → List UInt8 → Int × Int × Int
  | _, _, [] => (0, 0, 6)
  | i, u, c :: cs => if i = 9 ∧ 1 < c.toNat then (0, 0, 7) else if 128 ≤ c.toNat then dec (i + 1) (u + c.toNat % 128 * 128 ^ i) cs else if c.toNat = 0 ∧ 0 < i then (0, 0, 7) else (zag (u + c.toNat * 128 ^ i), (i : Int) + 1, 0)

theorem pow_le_of_lt {m i : Nat} (h : m * 128 ^ i < 18446744073709551616) (hm : 0 < m) : i ≤ 9 := by
  rcases Nat.lt_or_ge 9 i with hi | hi
  · have h1 : 128 ^ 10 ≤ 128 ^ i := Nat.pow_le_pow_right (by omega) hi
    have h2 : 128 ^ i ≤ m * 128 ^ i := Nat.le_mul_of_pos_left _ hm
    have h3 : (128 : Nat) ^ 10 = 1180591620717411303424 := by decide
    omega
  · exact hi

theorem dec_enc7 (m : Nat) : ∀ (i u : Nat) (rest : List UInt8), m * 128 ^ i < 18446744073709551616 → (i = 0 ∨ 0 < m) → dec i u (enc7 m ++ rest) = (zag (u + m * 128 ^ i), (i : Int) + (enc7 m).length, 0) := by
  induction m using Nat.strongRecOn with
  | _ m ih =>
    intro i u rest hm h0
    rw [enc7]
    by_cases h : m < 128
    · rw [if_pos h]
      have hc : (UInt8.ofNat m).toNat = m := by simp; omega
      show dec i u (UInt8.ofNat m :: rest) = _
      rw [dec, hc]
      have hbad : ¬ (i = 9 ∧ 1 < m) := by
        rintro ⟨rfl, h1⟩
        have h3 : (128 : Nat) ^ 9 = 9223372036854775808 := by decide
        rw [h3] at hm
        omega
      rw [if_neg hbad, if_neg (by omega), if_neg (by omega)]
      simp
    · rw [if_neg h]
      have hc : (UInt8.ofNat (m % 128 + 128)).toNat = m % 128 + 128 := by simp; omega
      show dec i u (UInt8.ofNat (m % 128 + 128) :: (enc7 (m / 128) ++ rest)) = _
      rw [dec, hc]
      have hi := pow_le_of_lt hm (by omega)
      have h9 : ¬ (i = 9 ∧ 1 < m % 128 + 128) := by
        rintro ⟨rfl, h1⟩
        have h3 : (128 : Nat) ^ 9 = 9223372036854775808 := by decide
        rw [h3] at hm
        omega
      rw [if_neg h9, if_pos (by omega)]
      have hs : m / 128 * 128 ^ (i + 1) + m % 128 * 128 ^ i = m * 128 ^ i := by
        rw [Nat.pow_succ, Nat.mul_comm (128 ^ i) 128, ← Nat.mul_assoc, ← Nat.add_mul]
        congr 1
        omega
      rw [ih (m / 128) (by omega) (i + 1) _ rest (by omega) (.inr (by omega))]
      have e1 : u + (m % 128 + 128) % 128 * 128 ^ i + m / 128 * 128 ^ (i + 1) = u + m * 128 ^ i := by
        rw [Nat.add_mod_right, Nat.mod_mod]
        omega
      rw [e1]
      simp only [List.length_cons, Int.natCast_add, Int.natCast_one]
      congr 2
      omega

/-- How many bytes are read: within what there is, and one at least. -/
theorem dec_within : ∀ (l : List UInt8) (i u : Nat), (dec i u l).2.2 = 0 → (i : Int) < (dec i u l).2.1 ∧ (dec i u l).2.1 ≤ (i : Int) + l.length
  | [], i, u, h => by simp [dec] at h
  | c :: cs, i, u, h => by
    rw [dec] at h ⊢
    split
    · rename_i h1
      rw [if_pos h1] at h
      simp at h
    · rename_i h1
      rw [if_neg h1] at h
      split
      · rename_i h2
        rw [if_pos h2] at h
        have := dec_within cs (i + 1) _ h
        simp only [List.length_cons, Int.natCast_add, Int.natCast_one] at this ⊢
        omega
      · rename_i h2
        rw [if_neg h2] at h
        split
        · rename_i h3
          rw [if_pos h3] at h
          simp at h
        · simp only [List.length_cons, Int.natCast_add, Int.natCast_one]
          omega
end Go.Proofs.Ytjboibdoelkfpaa.Num7
