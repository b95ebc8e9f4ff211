/- A frame with one byte another one, behind its length, is no frame. -/
import Derived.Test.YtjnlmcpcdgfpkaaQ3
import Derived.Test.YtjnlmcpcdgfpkaaQ4
import Derived.Test.YtjnlmcpcdgfpkaaCrcPure
set_option linter.unusedVariables false
namespace Go.Proofs.Ytjnlmcpcdgfpkaa.FlipPure
open Go Go.RowKit Go.Proofs.YtjnlmcpcdgfpkaaW.PrintWords Go.Proofs.YtjnlmcpcdgfpkaaW.PrintMore Go.Proofs.Ytjnlmcpcdgfpkaa.Num7 Go.Proofs.Ytjnlmcpcdgfpkaa.Bits7 Go.Proofs.Ytjnlmcpcdgfpkaa.NumPure Go.Proofs.Ytjnlmcpcdgfpkaa.FtakePure Go.Proofs.Ytjnlmcpcdgfpkaa.CrcPure Go.Proofs.Ytjnlmcpcdgfpkaa.Q

theorem ext_list (s : ByteArray) (i j : Nat) : (s.extract i j).data.toList = (s.data.toList.drop i).take (j - i) := by
  rw [ByteArray.data_extract, Array.toList_extract, List.extract_eq_take_drop]
theorem frame_list (s : ByteArray) : (frame s).data.toList = (four (s.size : Int)).data.toList ++ ((four (sumOf (four (s.size : Int) ++ s))).data.toList ++ s.data.toList) := by
  simp [frame, ByteArray.data_append]
theorem four_len (n : Int) : (four n).data.toList.length = 4 := by rw [data_length, four_size]
theorem flip (s t : ByteArray) (p : Nat) (b : UInt8) (hs : s.size ≤ 32768) (ht : t.data.toList = (frame s).data.toList.set p b) (hp : 4 ≤ p) (hp2 : p < 8 + s.size) (hb : (frame s).data.toList.getD p 0 ≠ b) : (takeF t).2.2 = 8 := by
  have hL := frame_list s
  have n4 := four_len (s.size : Int)
  have c4 := four_len (sumOf (four (s.size : Int) ++ s))
  have hc := sumOf_range (four (s.size : Int) ++ s)
  have hz : t.size = 8 + s.size := by
    rw [← data_length, ht, List.length_set, data_length, frame_size]
  have btt : ∀ i : Nat, bt t (i : Int) = ((((frame s).data.toList.set p b).getD i 0).toNat : Int) := by
    intro i
    rw [bt_list, ht]
  have low : ∀ i : Nat, i < 4 → bt t (i : Int) = bt (frame s) (i : Int) := by
    intro i hi
    rw [btt, bt_list, List.getD_eq_getElem?_getD, List.getD_eq_getElem?_getD, List.getElem?_set_ne (by omega)]
  have ff : fourOf (frame s) = s.size := by
    have := fourOf_four (s.size : Int) (four (sumOf (four (s.size : Int) ++ s)) ++ s) (by omega) (by omega)
    rw [← this]
    unfold frame
    rw [ByteArray.append_assoc, this]
  have ft : fourOf t = s.size := by
    rw [← ff, fourOf_eq, fourOf_eq]
    have l0 : bt t 0 = bt (frame s) 0 := low 0 (by omega)
    have l1 : bt t 1 = bt (frame s) 1 := low 1 (by omega)
    have l2 : bt t 2 = bt (frame s) 2 := low 2 (by omega)
    have l3 : bt t 3 = bt (frame s) 3 := low 3 (by omega)
    rw [l0, l1, l2, l3]
  have hsum : ¬ sumOf (t.extract 0 4 ++ t.extract 8 (8 + (s.size : Int)).toNat) = fourOf (t.extract 4 t.size) := by
    intro he
    have e1 : (t.extract 0 4 ++ t.extract 8 (8 + (s.size : Int)).toNat).data.toList = ((frame s).data.toList.set p b).take 4 ++ (((frame s).data.toList.set p b).drop 8).take s.size := by
      rw [ByteArray.data_append, Array.toList_append, ext_list, ext_list, ht, show (8 + (s.size : Int)).toNat - 8 = s.size by omega]
      simp
    have bu : ∀ i : Nat, bt (t.extract 4 t.size) (i : Int) = ((((frame s).data.toList.set p b).getD (4 + i) 0).toNat : Int) := by
      intro i
      rw [bt_list, ext_list, ht, List.take_of_length_le (by rw [List.length_drop, List.length_set, data_length, frame_size]; omega)]
      rw [List.getD_eq_getElem?_getD, List.getD_eq_getElem?_getD, List.getElem?_drop]
    have bv : ∀ i : Nat, i < 4 → bt (four (sumOf (four (s.size : Int) ++ s)) ++ s) (i : Int) = (((frame s).data.toList.getD (4 + i) 0).toNat : Int) := by
      intro i hi
      rw [bt_list, hL, ByteArray.data_append, Array.toList_append, List.getD_eq_getElem?_getD, List.getD_eq_getElem?_getD, List.getElem?_append_right (l₁ := (four (s.size : Int)).data.toList) (by omega), n4, Nat.add_sub_cancel_left]
    have fc := fourOf_four (sumOf (four (s.size : Int) ++ s)) s hc.1 hc.2
    have tk : ((frame s).data.toList.set p b).take 4 = (four (s.size : Int)).data.toList := by
      rw [List.take_set, List.set_eq_of_length_le (by rw [List.length_take]; omega), hL, List.take_left' n4]
    have dp0 : (frame s).data.toList.drop 8 = s.data.toList := by
      rw [hL, ← List.append_assoc, List.drop_left' (by rw [List.length_append, n4, c4])]
    have rg : ∀ (l : List UInt8) (i : Nat), (0 : Int) ≤ ((l.getD i 0).toNat : Int) ∧ ((l.getD i 0).toNat : Int) < 256 := by
      intro l i
      have := u8_lt (l.getD i 0)
      omega
    by_cases h8 : p < 8
    · have e2 : sumOf (t.extract 0 4 ++ t.extract 8 (8 + (s.size : Int)).toNat) = sumOf (four (s.size : Int) ++ s) := by
        unfold sumOf
        rw [e1, tk, List.drop_set, if_pos h8, dp0, List.take_of_length_le (by rw [data_length]; omega), ByteArray.data_append, Array.toList_append]
      rw [e2, ← fc, fourOf_eq, fourOf_eq] at he
      have u0 : bt (t.extract 4 t.size) 0 = _ := bu 0
      have u1 : bt (t.extract 4 t.size) 1 = _ := bu 1
      have u2 : bt (t.extract 4 t.size) 2 = _ := bu 2
      have u3 : bt (t.extract 4 t.size) 3 = _ := bu 3
      have v0 : bt (four (sumOf (four (s.size : Int) ++ s)) ++ s) 0 = _ := bv 0 (by omega)
      have v1 : bt (four (sumOf (four (s.size : Int) ++ s)) ++ s) 1 = _ := bv 1 (by omega)
      have v2 : bt (four (sumOf (four (s.size : Int) ++ s)) ++ s) 2 = _ := bv 2 (by omega)
      have v3 : bt (four (sumOf (four (s.size : Int) ++ s)) ++ s) 3 = _ := bv 3 (by omega)
      rw [u0, u1, u2, u3, v0, v1, v2, v3] at he
      have a0 := rg (frame s).data.toList (4 + 0)
      have a1 := rg (frame s).data.toList (4 + 1)
      have a2 := rg (frame s).data.toList (4 + 2)
      have a3 := rg (frame s).data.toList (4 + 3)
      have b0 := rg ((frame s).data.toList.set p b) (4 + 0)
      have b1 := rg ((frame s).data.toList.set p b) (4 + 1)
      have b2 := rg ((frame s).data.toList.set p b) (4 + 2)
      have b3 := rg ((frame s).data.toList.set p b) (4 + 3)
      have hlen : (frame s).data.toList.length = 8 + s.size := by rw [data_length, frame_size]
      have key : ∀ i : Nat, p = 4 + i → (((frame s).data.toList.set p b).getD (4 + i) 0) = b := by
        intro i hi
        subst hi
        rw [List.getD_eq_getElem?_getD, List.getElem?_set_self (by omega)]
        rfl
      apply hb
      apply UInt8.toNat_inj.1
      rcases (show p = 4 + 0 ∨ p = 4 + 1 ∨ p = 4 + 2 ∨ p = 4 + 3 by omega) with hq | hq | hq | hq
      · have k := key 0 hq
        rw [k] at he b0
        rw [hq]
        omega
      · have k := key 1 hq
        rw [k] at he b1
        rw [hq]
        omega
      · have k := key 2 hq
        rw [k] at he b2
        rw [hq]
        omega
      · have k := key 3 hq
        rw [k] at he b3
        rw [hq]
        omega
    · have e3 : fourOf (t.extract 4 t.size) = sumOf (four (s.size : Int) ++ s) := by
        rw [← fc, fourOf_eq, fourOf_eq]
        have w : ∀ i : Nat, i < 4 → bt (t.extract 4 t.size) (i : Int) = bt (four (sumOf (four (s.size : Int) ++ s)) ++ s) (i : Int) := by
          intro i hi
          rw [bu, bv i hi, List.getD_eq_getElem?_getD, List.getD_eq_getElem?_getD, List.getElem?_set_ne (by omega)]
        have w0 : bt (t.extract 4 t.size) 0 = _ := w 0 (by omega)
        have w1 : bt (t.extract 4 t.size) 1 = _ := w 1 (by omega)
        have w2 : bt (t.extract 4 t.size) 2 = _ := w 2 (by omega)
        have w3 : bt (t.extract 4 t.size) 3 = _ := w 3 (by omega)
        rw [w0, w1, w2, w3]
        rfl
      rw [e3] at he
      obtain ⟨i, rfl⟩ : ∃ i, p = 8 + i := ⟨p - 8, by omega⟩
      have hi : i < s.data.toList.length := by rw [data_length]; omega
      have hd : s.data.toList = s.data.toList.take i ++ s.data.toList[i] :: s.data.toList.drop (i + 1) := by
        rw [← List.drop_eq_getElem_cons hi, List.take_append_drop]
      have l1 : (four (s.size : Int) ++ s).data.toList = ((four (s.size : Int)).data.toList ++ s.data.toList.take i) ++ s.data.toList[i] :: s.data.toList.drop (i + 1) := by
        rw [ByteArray.data_append, Array.toList_append, List.append_assoc, ← hd]
      have l2 : (t.extract 0 4 ++ t.extract 8 (8 + (s.size : Int)).toNat).data.toList = ((four (s.size : Int)).data.toList ++ s.data.toList.take i) ++ b :: s.data.toList.drop (i + 1) := by
        rw [e1, tk, List.drop_set, if_neg (by omega), dp0, Nat.add_sub_cancel_left, List.take_of_length_le (by rw [List.length_set, data_length]; omega), List.append_assoc, List.set_eq_take_append_cons_drop, if_pos hi]
      have hab := sumOf_byte _ _ _ _ _ _ l2 l1 he
      apply hb
      rw [hab, List.getD_eq_getElem?_getD, ← List.getElem?_drop, dp0, List.getElem?_eq_getElem hi]
      rfl
  unfold takeF
  rw [if_neg (by omega), ft, if_neg (by omega), if_neg (by omega), if_neg hsum]
end Go.Proofs.Ytjnlmcpcdgfpkaa.FlipPure
