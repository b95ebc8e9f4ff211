/- Bits of whole numbers in plain arithmetic, and when a count of rounds is enough. -/
import Derived.Laws.BitsAllLaws
import Derived.Test.YtjboibdoelkfpaaWWords
import Derived.Test.YtjboibdoelkfpaaWMore
import Derived.Test.YtjboibdoelkfpaaNum7
namespace Go.Proofs.Ytjboibdoelkfpaa.Bits7
open Go Go.RowKit Go.Proofs.YtjboibdoelkfpaaW.PrintWords Go.Proofs.YtjboibdoelkfpaaW.PrintMore Go.Proofs.Ytjboibdoelkfpaa.Num7

theorem ev_pos {α : Type} {c : Prop} [Decidable c] {f g : Nat → Option α} {r : α} (h : c) (k : Ev f r) : Ev (fun n => if c then f n else g n) r := by
  obtain ⟨K, k⟩ := k
  exact ⟨K, fun n hn => by show (if c then f n else g n) = _; rw [if_pos h]; exact k n hn⟩
theorem ev_neg {α : Type} {c : Prop} [Decidable c] {f g : Nat → Option α} {r : α} (h : ¬ c) (k : Ev g r) : Ev (fun n => if c then f n else g n) r := by
  obtain ⟨K, k⟩ := k
  exact ⟨K, fun n hn => by show (if c then f n else g n) = _; rw [if_neg h]; exact k n hn⟩
/-- A call without rounds. -/
theorem ev_one {α β : Type} {g : Option α} {f : Nat → α → Option β} {a : α} {r : β} (h : g = some a) (k : Ev (fun n => f n a) r) : Ev (fun n => g.bind (f n)) r := by
  subst h
  exact k
theorem ev_some {α : Type} {a r : α} (h : a = r) : Ev (fun _ => some a) r := by
  subst h
  exact Ev.now _
theorem w64 {x : Int} (h1 : -9223372036854775808 ≤ x) (h2 : x ≤ 9223372036854775807) : wrap64 x = x := by
  unfold wrap64
  omega
theorem wrap_u64 (x : Int) : IntKind.u64.wrap x = x % 18446744073709551616 := by simp [IntKind.wrap, IntKind.bits, IntKind.signed]

theorem xor_zero_u64 (a : Int) (h1 : 0 ≤ a) (h2 : a < 18446744073709551616) : bits .xor .u64 a 0 = a := by
  rw [u64_xor a 0 h1 h2 (by omega) (by omega)]
  simp
  omega
theorem nat_not64 (a : Nat) (h : a < 18446744073709551616) : a ^^^ 18446744073709551615 = 18446744073709551615 - a := by
  have e := congrArg BitVec.toNat (BitVec.xor_allOnes (x := BitVec.ofNat 64 a))
  rw [BitVec.toNat_xor, BitVec.toNat_not, BitVec.toNat_ofNat, BitVec.toNat_allOnes, Nat.mod_eq_of_lt (by omega)] at e
  exact e
theorem xor_ones_u64 (a : Int) (h1 : 0 ≤ a) (h2 : a < 18446744073709551616) : bits .xor .u64 a 18446744073709551615 = 18446744073709551615 - a := by
  rw [u64_xor a _ h1 h2 (by omega) (by omega)]
  have := nat_not64 a.toNat (by omega)
  rw [show (18446744073709551615 : Int).toNat = 18446744073709551615 from rfl, this]
  omega
theorem ones_xor_u64 (a : Int) (h1 : 0 ≤ a) (h2 : a < 18446744073709551616) : bits .xor .u64 18446744073709551615 a = 18446744073709551615 - a := by
  rw [u64_xor _ a (by omega) (by omega) h1 h2, show (18446744073709551615 : Int).toNat = 18446744073709551615 from rfl, Nat.xor_comm, nat_not64 a.toNat (by omega)]
  omega
theorem and_one_u64 (a : Int) (h1 : 0 ≤ a) (h2 : a < 18446744073709551616) : bits .and .u64 a 1 = a % 2 := by
  rw [u64_and a 1 h1 h2 (by omega) (by omega), show (1 : Int).toNat = 1 from rfl, nat_mask1]
  omega
theorem and_127 (a : Int) (h1 : 0 ≤ a) (h2 : a < 256) : bits .and .u8 a 127 = a % 128 := by
  rw [u8_and a 127 h1 h2 (by omega) (by omega), show (127 : Int).toNat = 127 from rfl, nat_mask7]
  omega
theorem or_128 (a : Int) (h1 : 0 ≤ a) (h2 : a < 256) : bits .or .u8 a 128 = a % 128 + 128 := by
  rw [u8_or a 128 h1 h2 (by omega) (by omega), show (128 : Int).toNat = 128 from rfl]
  have e : a.toNat ||| 128 = a.toNat % 128 + 128 := by
    have h3 : a.toNat < 256 := by omega
    have h5 : ∀ b : Nat, b < 128 → 128 ||| b = 128 + b := fun b hb => nat_join 7 128 b (by decide) hb
    by_cases h4 : a.toNat < 128
    · rw [Nat.or_comm, h5 _ h4, Nat.mod_eq_of_lt h4, Nat.add_comm]
    · obtain ⟨b, hb⟩ : ∃ b, a.toNat = 128 + b := ⟨a.toNat - 128, by omega⟩
      rw [hb, ← h5 b (by omega), Nat.or_comm 128 b, Nat.or_assoc, Nat.or_self, Nat.or_comm, h5 b (by omega)]
      omega
  rw [e]
  omega
theorem or_join_u64 (u c : Nat) (i : Nat) (hu : u < 2 ^ i) (h : u + c * 2 ^ i < 18446744073709551616) : bits .or .u64 (u : Int) ((c * 2 ^ i : Nat) : Int) = ((u + c * 2 ^ i : Nat) : Int) := by
  have hc : c * 2 ^ i < 18446744073709551616 := by omega
  rw [u64_or_nat u (c * 2 ^ i) (by omega) hc, Nat.or_comm, nat_join i _ _ (Nat.mul_mod_left _ _) hu, Nat.add_comm]
theorem xor_m1_i64 (a : Int) (h1 : -9223372036854775808 ≤ a) (h2 : a ≤ 9223372036854775807) : bits .xor .i64 (-1) a = -a - 1 := by
  have e : BitVec.ofInt 64 (-1) ^^^ BitVec.ofInt 64 a = BitVec.ofInt 64 (-a - 1) := by
    have h3 : BitVec.ofInt 64 (-1) = BitVec.allOnes 64 := by decide
    rw [h3, BitVec.xor_comm, BitVec.xor_allOnes]
    apply BitVec.eq_of_toNat_eq
    rw [BitVec.toNat_not, BitVec.toNat_ofInt, BitVec.toNat_ofInt]
    omega
  show IntKind.i64.wrap ((BitVec.ofInt 64 (-1) ^^^ BitVec.ofInt 64 a).toNat : Int) = _
  rw [e, IntKind.wrap_i64, BitVec.toNat_ofInt]
  omega
theorem xor_comm_i64 (a b : Int) : bits .xor .i64 a b = bits .xor .i64 b a := by
  show IntKind.i64.wrap ((BitVec.ofInt 64 a ^^^ BitVec.ofInt 64 b).toNat : Int) = IntKind.i64.wrap ((BitVec.ofInt 64 b ^^^ BitVec.ofInt 64 a).toNat : Int)
  rw [BitVec.xor_comm]
theorem xor_zero_i64 (a : Int) (h1 : -9223372036854775808 ≤ a) (h2 : a ≤ 9223372036854775807) : bits .xor .i64 a 0 = a := by
  show IntKind.i64.wrap ((BitVec.ofInt 64 a ^^^ BitVec.ofInt 64 0).toNat : Int) = _
  rw [show BitVec.ofInt 64 0 = 0#64 from rfl, BitVec.xor_zero, IntKind.wrap_i64, BitVec.toNat_ofInt]
  omega

theorem turned_eq (n : Int) (h1 : -9223372036854775808 ≤ n) (h2 : n ≤ 9223372036854775807) : bits .xor .u64 (IntKind.u64.wrap (wrap64 (n * 2))) (IntKind.u64.wrap (n / 9223372036854775808)) = (zig n : Int) := by
  have e1 : IntKind.u64.wrap (wrap64 (n * 2)) = n * 2 % 18446744073709551616 := by
    rw [wrap_u64]
    unfold wrap64
    omega
  rw [e1]
  rcases Int.lt_or_le n 0 with h | h
  · have e2 : IntKind.u64.wrap (n / 9223372036854775808) = 18446744073709551615 := by rw [wrap_u64]; omega
    rw [e2, xor_ones_u64 _ (by omega) (by omega)]
    unfold zig
    rw [if_neg (by omega)]
    omega
  · have e2 : IntKind.u64.wrap (n / 9223372036854775808) = 0 := by rw [wrap_u64]; omega
    rw [e2, xor_zero_u64 _ (by omega) (by omega)]
    unfold zig
    rw [if_pos (by omega)]
    omega
theorem back_eq (u : Nat) (h : u < 18446744073709551616) : bits .xor .i64 (wrap64 ((u : Int) / 2)) (wrap64 (-(wrap64 (bits .and .u64 (u : Int) 1)))) = zag u := by
  rw [and_one_u64 _ (by omega) (by omega), w64 (by omega) (by omega), w64 (x := (u : Int) % 2) (by omega) (by omega), w64 (by omega) (by omega)]
  unfold zag
  by_cases h2 : u % 2 = 0
  · rw [if_pos h2, show -((u : Int) % 2) = 0 by omega, xor_zero_i64 _ (by omega) (by omega)]
    omega
  · rw [if_neg h2, show -((u : Int) % 2) = -1 by omega, xor_comm_i64, xor_m1_i64 _ (by omega) (by omega)]
    omega
end Go.Proofs.Ytjboibdoelkfpaa.Bits7
