/- Frames behind each other, cut off anywhere: those that are whole are told. -/
import Derived.Test.YtjnlmcpcdgfpkaaQ3
import Derived.Test.YtjnlmcpcdgfpkaaQ4
import Derived.Test.YtjnlmcpcdgfpkaaFtakePure
import Derived.Test.YtjnlmcpcdgfpkaaFlipPure
set_option linter.unusedVariables false
namespace Go.Proofs.Ytjnlmcpcdgfpkaa.ScanPure
open Go Go.RowKit Go.Proofs.YtjnlmcpcdgfpkaaW.PrintWords Go.Proofs.YtjnlmcpcdgfpkaaW.PrintMore Go.Proofs.Ytjnlmcpcdgfpkaa.Num7 Go.Proofs.Ytjnlmcpcdgfpkaa.Bits7 Go.Proofs.Ytjnlmcpcdgfpkaa.NumPure Go.Proofs.Ytjnlmcpcdgfpkaa.FtakePure Go.Proofs.Ytjnlmcpcdgfpkaa.CrcPure Go.Proofs.Ytjnlmcpcdgfpkaa.FlipPure Go.Proofs.Ytjnlmcpcdgfpkaa.Q

/-! ### all frames, until one cannot be taken -/
def scanS (s : ByteArray) : Nat → Nat → List ByteArray → List ByteArray × Int
  | 0, at_, acc => (acc, (at_ : Int))
  | f + 1, at_, acc => if (takeF (s.extract at_ s.size)).2.2 = 0 then scanS s f (at_ + (takeF (s.extract at_ s.size)).2.1.toNat) (acc ++ [(takeF (s.extract at_ s.size)).1]) else (acc, (at_ : Int))
theorem scan_l0 (s : ByteArray) (hs : s.size ≤ 8796093022000) (f : Nat) : ∀ (at_ : Nat) (acc : List ByteArray), s.size < at_ + f → at_ ≤ s.size → acc.length ≤ at_ → Ev (fun k => frame_Scan.l0 k s acc (at_ : Int)) (scanS s f at_ acc) := by
  induction f with
  | zero => intro at_ acc h1 h2; omega
  | succ f ih =>
    intro at_ acc h1 h2 hl
    refine Ev.step (fun k => by rw [frame_Scan.l0]) (ev_pos (by omega) (ev_pos (by omega) (Ev.bind (frame_Take_ev _ (by rw [ext_size]; omega)) ?_)))
    rw [Int.toNat_natCast, scanS]
    by_cases h : (takeF (s.extract at_ s.size)).2.2 = 0
    · have hk := takeF_ok _ h
      rw [ext_size] at hk
      rw [if_pos h]
      refine ev_pos h (ev_pos (by omega) ?_)
      have := ih (at_ + (takeF (s.extract at_ s.size)).2.1.toNat) (acc ++ [(takeF (s.extract at_ s.size)).1]) (by omega) (by omega) (by simp; omega)
      rw [w64 (by omega) (by omega), show (at_ : Int) + (takeF (s.extract at_ s.size)).2.1 = ((at_ + (takeF (s.extract at_ s.size)).2.1.toNat : Nat) : Int) by omega]
      exact this
    · rw [if_neg h]
      exact ev_neg h (ev_some rfl)
theorem rscan_l0 (s : ByteArray) (hs : s.size ≤ 8796093022000) (f : Nat) : ∀ (at_ : Nat) (acc : List ByteArray), s.size < at_ + f → at_ ≤ s.size → acc.length ≤ at_ → Ev (fun k => thresherref3_Scan.l0 k s acc (at_ : Int)) (scanS s f at_ acc) := by
  induction f with
  | zero => intro at_ acc h1 h2; omega
  | succ f ih =>
    intro at_ acc h1 h2 hl
    refine Ev.step (fun k => by rw [thresherref3_Scan.l0]) (ev_pos (by omega) (ev_pos (by omega) (Ev.bind (ref_TakeFrame_ev _ (by rw [ext_size]; omega)) ?_)))
    rw [Int.toNat_natCast, scanS]
    by_cases h : (takeF (s.extract at_ s.size)).2.2 = 0
    · have hk := takeF_ok _ h
      rw [ext_size] at hk
      rw [if_pos h]
      refine ev_pos h (ev_pos (by omega) ?_)
      have := ih (at_ + (takeF (s.extract at_ s.size)).2.1.toNat) (acc ++ [(takeF (s.extract at_ s.size)).1]) (by omega) (by omega) (by simp; omega)
      rw [w64 (by omega) (by omega), show (at_ : Int) + (takeF (s.extract at_ s.size)).2.1 = ((at_ + (takeF (s.extract at_ s.size)).2.1.toNat : Nat) : Int) by omega]
      exact this
    · rw [if_neg h]
      exact ev_neg h (ev_some rfl)
def scan (s : ByteArray) : List ByteArray × Int := scanS s (s.size + 1) 0 []
theorem frame_Scan_ev (s : ByteArray) (hs : s.size ≤ 8796093022000) : Ev (fun k => frame_Scan.f k s) (scan s) := by
  unfold frame_Scan.f
  exact scan_l0 s hs _ 0 [] (by omega) (by omega) (by simp)
theorem ref_Scan_ev (s : ByteArray) (hs : s.size ≤ 8796093022000) : Ev (fun k => thresherref3_Scan.f k s) (scan s) := by
  unfold thresherref3_Scan.f
  exact rscan_l0 s hs _ 0 [] (by omega) (by omega) (by simp)
theorem scanS_length (s : ByteArray) (f : Nat) : ∀ (at_ : Nat) (acc : List ByteArray), at_ ≤ s.size → acc.length ≤ at_ → (scanS s f at_ acc).1.length ≤ s.size := by
  induction f with
  | zero => intro at_ acc h1 h2; simp only [scanS]; omega
  | succ f ih =>
    intro at_ acc h1 h2
    rw [scanS]
    split
    · rename_i h
      have hk := takeF_ok _ h
      rw [ext_size] at hk
      exact ih _ _ (by omega) (by simp; omega)
    · simp only; omega
theorem scan_length (s : ByteArray) : (scan s).1.length ≤ s.size := scanS_length s _ 0 [] (by omega) (by simp)

/-! ### the same lists of texts -/
theorem eqs_l0 (l : List ByteArray) (hl : l.length ≤ 9223372036854775806) (d : Nat) : ∀ i : Nat, i + d = l.length → Ev (fun k => thresherref0_EqStrings.l0 k l l (i : Int)) true := by
  induction d with
  | zero =>
    intro i hd
    exact Ev.step (fun k => by rw [thresherref0_EqStrings.l0]) (ev_neg (by omega) (ev_some rfl))
  | succ d ih =>
    intro i hd
    refine Ev.step (fun k => by rw [thresherref0_EqStrings.l0]) (ev_pos (by omega) (ev_pos (by omega) (ev_pos (by omega) (ev_pos rfl ?_))))
    rw [w64 (x := (i : Int) + 1) (by omega) (by omega), show (i : Int) + 1 = ((i + 1 : Nat) : Int) by omega]
    exact ih (i + 1) (by omega)
theorem eqs_ev (l : List ByteArray) (hl : l.length ≤ 9223372036854775806) : Ev (fun k => thresherref0_EqStrings.f k l l) true := by
  unfold thresherref0_EqStrings.f
  exact ev_pos rfl (eqs_l0 l hl l.length 0 (by omega))
/-! ### a row of frames, cut off -/
def rowOf : List ByteArray → ByteArray
  | [] => ⟨#[]⟩
  | s :: r => frame s ++ rowOf r
def whole : List ByteArray → Nat → Nat
  | [], _ => 0
  | s :: r, m => if 8 + s.size ≤ m then 1 + whole r (m - (8 + s.size)) else 0
def upto : List ByteArray → Nat → Nat
  | [], _ => 0
  | s :: r, m => if 8 + s.size ≤ m then 8 + s.size + upto r (m - (8 + s.size)) else 0
theorem takeF_short (s r : ByteArray) (m : Nat) (hs : s.size ≤ 32768) (hm : m < 8 + s.size) : ¬ (takeF ((frame s ++ r).extract 0 m)).2.2 = 0 := by
  have hz : ((frame s ++ r).extract 0 m).size = m := by rw [ByteArray.size_extract, ByteArray.size_append, frame_size]; omega
  unfold takeF
  by_cases h8 : m < 8
  · rw [if_pos (by omega)]
    simp
  · rw [if_neg (by omega)]
    have ff : fourOf ((frame s ++ r).extract 0 m) = s.size := by
      have e := fourOf_four (s.size : Int) ((four (sumOf (four (s.size : Int) ++ s)) ++ s) ++ r) (by omega) (by omega)
      have e2 : frame s ++ r = four (s.size : Int) ++ ((four (sumOf (four (s.size : Int) ++ s)) ++ s) ++ r) := by
        unfold frame
        rw [ByteArray.append_assoc, ByteArray.append_assoc, ByteArray.append_assoc]
      rw [← e2] at e
      rw [← e, fourOf_eq, fourOf_eq]
      have w : ∀ i : Nat, i < 4 → bt ((frame s ++ r).extract 0 m) (i : Int) = bt (frame s ++ r) (i : Int) := by
        intro i hi
        rw [bt_list, bt_list, ext_list, List.drop_zero, List.getD_eq_getElem?_getD, List.getD_eq_getElem?_getD, List.getElem?_take_of_lt (by omega)]
      have w0 : bt ((frame s ++ r).extract 0 m) 0 = _ := w 0 (by omega)
      have w1 : bt ((frame s ++ r).extract 0 m) 1 = _ := w 1 (by omega)
      have w2 : bt ((frame s ++ r).extract 0 m) 2 = _ := w 2 (by omega)
      have w3 : bt ((frame s ++ r).extract 0 m) 3 = _ := w 3 (by omega)
      rw [w0, w1, w2, w3]
      rfl
    rw [ff, if_neg (by omega), if_pos (by omega)]
    simp
theorem scan_cut (ts : List ByteArray) : (∀ s ∈ ts, s.size ≤ 300) → ∀ (f m : Nat) (pre : ByteArray) (acc : List ByteArray), m ≤ (rowOf ts).size → m < f → scanS (pre ++ (rowOf ts).extract 0 m) f pre.size acc = (acc ++ ts.take (whole ts m), ((pre.size + upto ts m : Nat) : Int)) := by
  induction ts with
  | nil =>
    intro _ f m pre acc hm hf
    obtain ⟨f, rfl⟩ : ∃ g, f = g + 1 := ⟨f - 1, by omega⟩
    rw [scanS, ByteArray.extract_append_eq_right rfl ByteArray.size_append, if_neg]
    · simp [whole, upto]
    · unfold takeF
      rw [if_pos (by rw [ByteArray.size_extract]; show _ < 8; simp [rowOf]; exact Nat.lt_of_le_of_lt (Nat.min_le_right _ _) (by decide))]
      simp
  | cons s r ih =>
    intro hts f m pre acc hm hf
    have hs := hts s List.mem_cons_self
    have hfs := frame_size s
    obtain ⟨f, rfl⟩ : ∃ g, f = g + 1 := ⟨f - 1, by omega⟩
    rw [scanS, ByteArray.extract_append_eq_right rfl ByteArray.size_append]
    by_cases h : 8 + s.size ≤ m
    · have ex : (rowOf (s :: r)).extract 0 m = frame s ++ (rowOf r).extract 0 (m - (8 + s.size)) := by
        show (frame s ++ rowOf r).extract 0 m = _
        rw [ByteArray.extract_append, hfs, Nat.zero_sub]
        congr 1
        rw [show (frame s).extract 0 m = frame s from by
          have := ByteArray.extract_append_eq_left (a := frame s) (b := ⟨#[]⟩) (i := (frame s).size) rfl
          apply ByteArray.ext
          rw [ByteArray.data_extract]
          apply Array.toList_inj.1
          rw [Array.toList_extract, List.extract_eq_take_drop, List.drop_zero, List.take_of_length_le]
          rw [data_length, hfs]
          omega]
      rw [ex, takeF_frame s _ (by omega), if_pos rfl]
      simp only
      have e1 : pre ++ (frame s ++ (rowOf r).extract 0 (m - (8 + s.size))) = (pre ++ frame s) ++ (rowOf r).extract 0 (m - (8 + s.size)) := by rw [ByteArray.append_assoc]
      have e2 : pre.size + (8 + (s.size : Int)).toNat = (pre ++ frame s).size := by rw [ByteArray.size_append, hfs]; omega
      have hm2 : m - (8 + s.size) ≤ (rowOf r).size := by
        unfold rowOf at hm
        rw [ByteArray.size_append, hfs] at hm
        omega
      rw [e1, e2, ih (fun y hy => hts y (List.mem_cons_of_mem _ hy)) f (m - (8 + s.size)) (pre ++ frame s) (acc ++ [s]) hm2 (by omega)]
      simp only [whole, upto, if_pos h]
      rw [ByteArray.size_append, hfs, Nat.add_comm 1, List.take_succ_cons, List.append_assoc]
      simp
      omega
    · have := takeF_short s (rowOf r) m (by omega) (by omega)
      rw [if_neg (by unfold rowOf; exact this)]
      simp [whole, upto, h]
end Go.Proofs.Ytjnlmcpcdgfpkaa.ScanPure
