/- The sum tells one bit turned: what is summed is a row of steps, each of which can be undone. -/
import Derived.Test.YtjnlmcpcdgfpkaaQ3
import Derived.Test.YtjnlmcpcdgfpkaaQ4
import Derived.Test.YtjnlmcpcdgfpkaaFtakePure
set_option linter.unusedVariables false
namespace Go.Proofs.Ytjnlmcpcdgfpkaa.CrcPure
open Go Go.RowKit Go.Proofs.YtjnlmcpcdgfpkaaW.PrintWords Go.Proofs.YtjnlmcpcdgfpkaaW.PrintMore Go.Proofs.Ytjnlmcpcdgfpkaa.Num7 Go.Proofs.Ytjnlmcpcdgfpkaa.Bits7 Go.Proofs.Ytjnlmcpcdgfpkaa.NumPure Go.Proofs.Ytjnlmcpcdgfpkaa.FtakePure Go.Proofs.Ytjnlmcpcdgfpkaa.Q

theorem xor_inj {a b c : Nat} (h : c ^^^ a = c ^^^ b) : a = b := by
  have := congrArg (c ^^^ ·) h
  simpa [← Nat.xor_assoc] using this
theorem xor32_inj {a b c : Int} (ha : 0 ≤ a ∧ a < 4294967296) (hb : 0 ≤ b ∧ b < 4294967296) (hc : 0 ≤ c ∧ c < 4294967296) (h : bits .xor .u32 c a = bits .xor .u32 c b) : a = b := by
  rw [u32_xor c a hc.1 hc.2 ha.1 ha.2, u32_xor c b hc.1 hc.2 hb.1 hb.2] at h
  have h2 : c.toNat ^^^ a.toNat = c.toNat ^^^ b.toNat := by omega
  have := xor_inj h2
  omega
theorem xor32_comm (a b : Int) (ha : 0 ≤ a ∧ a < 4294967296) (hb : 0 ≤ b ∧ b < 4294967296) : bits .xor .u32 a b = bits .xor .u32 b a := by
  rw [u32_xor a b ha.1 ha.2 hb.1 hb.2, u32_xor b a hb.1 hb.2 ha.1 ha.2, Nat.xor_comm]
theorem xor32_inj' {a b c : Int} (ha : 0 ≤ a ∧ a < 4294967296) (hb : 0 ≤ b ∧ b < 4294967296) (hc : 0 ≤ c ∧ c < 4294967296) (h : bits .xor .u32 a c = bits .xor .u32 b c) : a = b := by
  rw [xor32_comm a c ha hc, xor32_comm b c hb hc] at h
  exact xor32_inj ha hb hc h
theorem and_one (c : Int) (h : 0 ≤ c ∧ c < 4294967296) : bits .and .u32 c 1 = c % 2 := by
  rw [u32_and c 1 h.1 h.2 (by omega) (by omega), show (1 : Int).toNat = 1 from rfl, nat_mask1]
  omega
/-- Its top bit tells whether the number was odd. -/
theorem turn_top (c : Int) (h : 0 ≤ c ∧ c < 4294967296) : (c % 2 = 1 → 2147483648 ≤ turnI c) ∧ (c % 2 = 0 → turnI c < 2147483648) := by
  have ha := and_one c h
  constructor
  · intro ho
    rw [turn_odd c (by rw [ha, ho]), u32_xor _ _ (by omega) (by omega) (by omega) (by omega)]
    have h2 : (c / 2).toNat < 2147483648 := by omega
    have e : (3988292384 : Int).toNat = 2147483648 + 1840808736 := rfl
    rw [e]
    have j1 : (2147483648 + 1840808736 : Nat) = 2147483648 ||| 1840808736 := (nat_join 31 2147483648 1840808736 (by decide) (by decide)).symm
    have j2 : ((c / 2).toNat ^^^ (2147483648 + 1840808736)).testBit 31 = true := by
      rw [Nat.testBit_xor, Nat.testBit_lt_two_pow (by simpa using h2)]
      decide
    have := Nat.ge_two_pow_of_testBit j2
    omega
  · intro he
    rw [turn_even c h.1 h.2 (by rw [ha, he]; decide)]
    omega
theorem turn_inj {a b : Int} (ha : 0 ≤ a ∧ a < 4294967296) (hb : 0 ≤ b ∧ b < 4294967296) (h : turnI a = turnI b) : a = b := by
  obtain ⟨a1, a2⟩ := turn_top a ha
  obtain ⟨b1, b2⟩ := turn_top b hb
  have ea := and_one a ha
  have eb := and_one b hb
  by_cases hp : a % 2 = 1
  · have hq : b % 2 = 1 := by
      have := a1 hp
      rcases (show b % 2 = 0 ∨ b % 2 = 1 by omega) with hq | hq
      · have := b2 hq
        omega
      · exact hq
    rw [turn_odd a (by rw [ea, hp]), turn_odd b (by rw [eb, hq])] at h
    have := xor32_inj' (by omega) (by omega) (by omega) h
    omega
  · have hp0 : a % 2 = 0 := by omega
    have hq : b % 2 = 0 := by
      have := a2 hp0
      rcases (show b % 2 = 0 ∨ b % 2 = 1 by omega) with hq | hq
      · exact hq
      · have := b1 hq
        omega
    rw [turn_even a ha.1 ha.2 (by rw [ea, hp0]; decide), turn_even b hb.1 hb.2 (by rw [eb, hq]; decide)] at h
    omega
theorem turns_inj (n : Nat) : ∀ {a b : Int}, (0 ≤ a ∧ a < 4294967296) → (0 ≤ b ∧ b < 4294967296) → turns n a = turns n b → a = b := by
  induction n with
  | zero => intro a b _ _ h; exact h
  | succ n ih => intro a b ha hb h; exact turn_inj ha hb (ih (turn_range a) (turn_range b) h)
theorem byte_range (b : UInt8) : 0 ≤ (b.toNat : Int) ∧ (b.toNat : Int) < 4294967296 := by
  have := b.toNat_lt
  omega
theorem sumFrom_range : ∀ (l : List UInt8) (c : Int), (0 ≤ c ∧ c < 4294967296) → 0 ≤ sumFrom c l ∧ sumFrom c l < 4294967296
  | [], c, h => h
  | b :: l, c, h => sumFrom_range l _ (turns_range 8 _ (bits_u32 _ _ _).1 (bits_u32 _ _ _).2)
theorem sumFrom_inj : ∀ (l : List UInt8) {c d : Int}, (0 ≤ c ∧ c < 4294967296) → (0 ≤ d ∧ d < 4294967296) → sumFrom c l = sumFrom d l → c = d
  | [], c, d, _, _, h => h
  | b :: l, c, d, hc, hd, h => by
    have h1 := sumFrom_inj l (turns_range 8 _ (bits_u32 _ _ _).1 (bits_u32 _ _ _).2) (turns_range 8 _ (bits_u32 _ _ _).1 (bits_u32 _ _ _).2) h
    exact xor32_inj' hc hd (byte_range b) (turns_inj 8 (bits_u32 _ _ _) (bits_u32 _ _ _) h1)
theorem sumFrom_append : ∀ (l m : List UInt8) (c : Int), sumFrom c (l ++ m) = sumFrom (sumFrom c l) m
  | [], _, _ => rfl
  | _ :: l, m, _ => sumFrom_append l m _
/-- One byte another one: the sum is another one. -/
theorem sum_byte (l m : List UInt8) (a b : UInt8) (h : sumFrom 4294967295 (l ++ a :: m) = sumFrom 4294967295 (l ++ b :: m)) : a = b := by
  rw [sumFrom_append, sumFrom_append] at h
  have hr := sumFrom_range l 4294967295 (by omega)
  generalize sumFrom 4294967295 l = c at h hr
  have h1 := sumFrom_inj m (turns_range 8 _ (bits_u32 _ _ _).1 (bits_u32 _ _ _).2) (turns_range 8 _ (bits_u32 _ _ _).1 (bits_u32 _ _ _).2) h
  have h2 := xor32_inj (byte_range a) (byte_range b) hr (turns_inj 8 (bits_u32 _ _ _) (bits_u32 _ _ _) h1)
  apply UInt8.toNat_inj.1
  omega
theorem sumOf_byte (s t : ByteArray) (l m : List UInt8) (a b : UInt8) (hs : s.data.toList = l ++ a :: m) (ht : t.data.toList = l ++ b :: m) (h : sumOf s = sumOf t) : a = b := by
  unfold sumOf at h
  rw [hs, ht] at h
  exact sum_byte l m a b (xor32_inj (sumFrom_range _ _ (by omega)) (sumFrom_range _ _ (by omega)) (by omega) h)
/-- The number that four bytes are. -/
theorem fourOf_eq (s : ByteArray) : fourOf s = bt s 0 * 16777216 + bt s 1 * 65536 + bt s 2 * 256 + bt s 3 := by
  have r : ∀ i : Nat, 0 ≤ bt s (i : Int) ∧ bt s (i : Int) < 256 := by
    intro i
    rw [bt_list]
    have := u8_lt (s.data.toList.getD i 0)
    omega
  have r0 : 0 ≤ bt s 0 ∧ bt s 0 < 256 := r 0
  have r1 : 0 ≤ bt s 1 ∧ bt s 1 < 256 := r 1
  have r2 : 0 ≤ bt s 2 ∧ bt s 2 < 256 := r 2
  have r3 : 0 ≤ bt s 3 ∧ bt s 3 < 256 := r 3
  have j := fourOf_four (bt s 0 * 16777216 + bt s 1 * 65536 + bt s 2 * 256 + bt s 3) ⟨#[]⟩ (by omega) (by omega)
  have e0 : bt (four (bt s 0 * 16777216 + bt s 1 * 65536 + bt s 2 * 256 + bt s 3) ++ (⟨#[]⟩ : ByteArray)) 0 = bt s 0 := (bt_four _ _ 0 (by omega)).trans (by show _ / _ % _ = _; omega)
  have e1 : bt (four (bt s 0 * 16777216 + bt s 1 * 65536 + bt s 2 * 256 + bt s 3) ++ (⟨#[]⟩ : ByteArray)) 1 = bt s 1 := (bt_four _ _ 1 (by omega)).trans (by show _ / _ % _ = _; omega)
  have e2 : bt (four (bt s 0 * 16777216 + bt s 1 * 65536 + bt s 2 * 256 + bt s 3) ++ (⟨#[]⟩ : ByteArray)) 2 = bt s 2 := (bt_four _ _ 2 (by omega)).trans (by show _ / _ % _ = _; omega)
  have e3 : bt (four (bt s 0 * 16777216 + bt s 1 * 65536 + bt s 2 * 256 + bt s 3) ++ (⟨#[]⟩ : ByteArray)) 3 = bt s 3 := (bt_four _ _ 3 (by omega)).trans (by show _ % _ = _; omega)
  unfold fourOf at j ⊢
  rw [e0, e1, e2, e3] at j
  exact j
end Go.Proofs.Ytjnlmcpcdgfpkaa.CrcPure
