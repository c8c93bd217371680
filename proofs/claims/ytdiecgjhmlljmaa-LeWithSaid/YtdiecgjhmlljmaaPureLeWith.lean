/- The law LeWith over what its functions compute: for every text, place and number it answers true. -/
import Derived.Test.YtdiecgjhmlljmaaWithNice
namespace Go.Proofs.Ytdiecgjhmlljmaa.Pure
open Go Go.RowKit Go.Proofs.Ytdiecgjhmlljmaa.PWith Go.Proofs.YtdiecgjhmlljmaaW.PrintWords Go.Proofs.YtdiecgjhmlljmaaW.PrintLast Go.Proofs.Ytdiecgjhmlljmaa.WNice

theorem ba_ext {a b : ByteArray} (h : a.data.toList = b.data.toList) : a = b := ByteArray.ext (Array.ext' h)
theorem ex_toList (s : ByteArray) (i j : Nat) : (s.extract i j).data.toList = (s.data.toList.drop i).take (j - i) := by simp
theorem ex_to_end (s : ByteArray) (i : Nat) : (s.extract i s.size).data.toList = s.data.toList.drop i := by
  rw [ex_toList, List.take_of_length_le]
  rw [List.length_drop]
  exact Nat.le_refl _
def withT (s : ByteArray) (a n m : Nat) : ByteArray := s.extract 0 a ++ putF n m ++ s.extract (a + m) s.size
theorem put_size (n m : Nat) (h : 1 ≤ m ∧ m ≤ 8) : (putF n m).size = m := by
  rw [putF_size, if_pos (by omega)]; rfl
theorem withT_list (s : ByteArray) (a n m : Nat) (h : a + m ≤ s.size) : (withT s a n m).data.toList = s.data.toList.take a ++ ((putF n m).data.toList ++ s.data.toList.drop (a + m)) := by
  have : (withT s a n m).data.toList = (s.extract 0 a).data.toList ++ (putF n m).data.toList ++ (s.extract (a + m) s.size).data.toList := by
    simp [withT]
  rw [this, ex_to_end, ex_toList, List.append_assoc]
  rfl
theorem len_data (s : ByteArray) : s.data.toList.length = s.size := rfl
theorem withT_size (s : ByteArray) (a n m : Nat) (h : a + m ≤ s.size) (hm : 1 ≤ m ∧ m ≤ 8) : (withT s a n m).size = s.size := by
  rw [← len_data, withT_list s a n m h]
  simp only [List.length_append, List.length_take, List.length_drop, len_data, put_size n m hm]
  omega
theorem withT_at (s : ByteArray) (a n m : Nat) (h : a + m ≤ s.size) (hm : 1 ≤ m ∧ m ≤ 8) : (withT s a n m).extract a (a + m) = putF n m := by
  apply ba_ext
  rw [ex_toList, withT_list s a n m h, List.drop_left' (by rw [List.length_take, len_data]; omega), Nat.add_sub_cancel_left, List.take_left' (by rw [len_data, put_size n m hm])]
theorem withT_left (s : ByteArray) (a n m : Nat) (h : a + m ≤ s.size) : (withT s a n m).extract 0 a = s.extract 0 a := by
  apply ba_ext
  rw [ex_toList, ex_toList, withT_list s a n m h, List.drop_zero, List.drop_zero, Nat.sub_zero, List.take_left' (by rw [List.length_take, len_data]; omega)]
theorem withT_right (s : ByteArray) (a n m : Nat) (h : a + m ≤ s.size) (hm : 1 ≤ m ∧ m ≤ 8) : (withT s a n m).extract (a + m) (withT s a n m).size = s.extract (a + m) s.size := by
  apply ba_ext
  rw [ex_to_end, ex_to_end, withT_list s a n m h, ← List.append_assoc, List.drop_left' (by rw [List.length_append, List.length_take, len_data, len_data, put_size n m hm]; omega)]

theorem with_ev (s : ByteArray) (a n : Nat) (m : Nat) (hs : s.size ≤ 140737488351232) (ha : a < 18446744073709551616) (hn : n < 18446744073709551616) (hm : m ≤ 9) :
    Ev (fun k => le_With.f k s a n m) (if 1 ≤ m ∧ m ≤ 8 ∧ a + m ≤ s.size then (withT s a n m, true) else (⟨#[]⟩, false)) := by
  obtain ⟨K1, e1⟩ := at_ev s a m hs ha
  obtain ⟨K2, e2⟩ := put_ev n m hn
  dsimp only at e1 e2
  refine ⟨K1 + K2, fun k hk => ?_⟩
  show le_With.f k s a n m = _
  unfold le_With.f
  rw [e1 _ (by omega)]
  simp only [Option.bind_some]
  by_cases h : 1 ≤ m ∧ m ≤ 8 ∧ a + m ≤ s.size
  · have hat : atF s a m = (getS (s.extract a (a + m)), true) := by
      unfold atF
      rw [if_pos (by omega), Int.toNat_natCast]
    have hp := put_size n m ⟨h.1, h.2.1⟩
    have w1 : IntKind.u64.wrap (m : Int) = m := u64w (by omega) (by omega)
    have w2 : IntKind.u64.wrap ((a : Int) + (m : Int)) = ((a + m : Nat) : Int) := by rw [u64w (by omega) (by omega)]; omega
    rw [hat, if_pos h]
    simp only [if_true]
    rw [if_pos (by omega), if_pos (by omega), e2 _ (by omega)]
    simp only [Option.bind_some, w1, w2, Int.toNat_natCast]
    rw [if_pos (by simp only [ByteArray.size_extract, hp]; omega), if_pos (by omega), if_pos (by omega), if_pos (by simp only [ByteArray.size_append, ByteArray.size_extract, hp]; omega)]
    rfl
  · have hat : atF s a m = (0, false) := by
      unfold atF
      rw [if_neg (by omega)]
    rw [hat, if_neg h]
    simp

theorem with_loop (s : ByteArray) (a n : Nat) (hs : s.size ≤ 140737488351232) (ha : a < 18446744073709551616) (hn : n < 18446744073709551616) : ∀ d i : Nat, i + d = 10 →
    Ev (fun k => turnbucklelaw01_LeWith.l0 k s a n i) true := by
  intro d
  induction d with
  | zero =>
    intro i hi
    refine Ev.step (f := fun _ => some true) (fun k => ?_) (Ev.now _)
    simp only [turnbucklelaw01_LeWith.l0]
    rw [if_neg (by omega)]
  | succ d ih =>
    intro i hi
    obtain ⟨K1, e1⟩ := ih (i + 1) (by omega)
    obtain ⟨K2, e2⟩ := with_ev s a n i hs ha hn (by omega)
    obtain ⟨K3, e3⟩ : ∃ K, ∀ k, K ≤ k → (1 ≤ i ∧ i ≤ 8 ∧ a + i ≤ s.size) → le_At.f k (withT s a n i) a i = some ((((atF (withT s a n i) a i).1 : Nat) : Int), (atF (withT s a n i) a i).2) := by
      by_cases h : 1 ≤ i ∧ i ≤ 8 ∧ a + i ≤ s.size
      · obtain ⟨K, e⟩ := at_ev (withT s a n i) a i (by rw [withT_size s a n i h.2.2 ⟨h.1, h.2.1⟩]; exact hs) ha
        exact ⟨K, fun k hk _ => e k hk⟩
      · exact ⟨0, fun _ _ h' => absurd h' h⟩
    obtain ⟨K4, e4⟩ := put_ev n i hn
    obtain ⟨K5, e5⟩ := get_ev (putF n i)
    dsimp only at e1 e2 e4 e5
    have w0 : wrap64 ((i : Int) + 1) = ((i + 1 : Nat) : Int) := by rw [w64 (by omega) (by omega)]; omega
    have ws : IntKind.u64.wrap (s.size : Int) = s.size := u64w (by omega) (by omega)
    have wi : IntKind.u64.wrap (i : Int) = i := u64w (by omega) (by omega)
    refine ⟨K1 + K2 + K3 + K4 + K5 + 2, fun k hk => ?_⟩
    show turnbucklelaw01_LeWith.l0 k s a n i = _
    obtain ⟨j, rfl⟩ : ∃ j, k = j + 1 + 1 := ⟨k - 2, by omega⟩
    simp only [turnbucklelaw01_LeWith.l0]
    rw [if_pos (by omega), e2 _ (by omega)]
    simp only [Option.bind_some]
    by_cases h : 1 ≤ i ∧ i ≤ 8 ∧ a + i ≤ s.size
    · have hm : 1 ≤ i ∧ i ≤ 8 := ⟨h.1, h.2.1⟩
      have w2 : IntKind.u64.wrap ((a : Int) + (i : Int)) = ((a + i : Nat) : Int) := by rw [u64w (by omega) (by omega)]; omega
      have w3 : IntKind.u64.wrap ((s.size : Int) - (a : Int)) = (s.size : Int) - a := u64w (by omega) (by omega)
      have hat : atF (withT s a n i) a i = (getS (putF n i), true) := by
        unfold atF
        rw [if_pos (by rw [withT_size s a n i h.2.2 hm]; omega), Int.toNat_natCast, withT_at s a n i h.2.2 hm]
      rw [if_pos h, if_neg (by omega), if_neg (by omega), ws, if_neg (by omega), wi, w3, decide_eq_false (by omega)]
      simp only [turnbucklelaw01_LeWith.j1, Bool.false_eq_true, if_false]
      rw [e3 _ (by omega) h, hat]
      simp only [Option.bind_some, if_true, wi, w2]
      rw [if_pos (by rw [withT_size s a n i h.2.2 hm]), e4 _ (by omega)]
      simp only [Option.bind_some]
      rw [e5 _ (by omega)]
      simp only [Option.bind_some, if_true]
      have sz := withT_size s a n i h.2.2 hm
      rw [if_pos (by omega), if_pos (by omega), if_pos (by omega), if_pos (by rw [Int.toNat_natCast, withT_left s a n i h.2.2]), if_pos (by omega), if_pos (by omega), if_pos (by omega), if_pos (by rw [Int.toNat_natCast, withT_right s a n i h.2.2 hm]), w0, e1 _ (by omega)]
    · have hj : turnbucklelaw01_LeWith.j1 (j + 1) s a n i ⟨#[]⟩ false true = some true := by
        simp only [turnbucklelaw01_LeWith.j1, if_true, Bool.false_eq_true, if_false]
        have hem : ((⟨#[]⟩ : ByteArray).toList = ([] : List UInt8)) := by decide +kernel
        rw [if_pos hem, w0, e1 _ (by omega)]
      rw [if_neg h]
      dsimp only
      by_cases h1 : (i : Int) < 1
      · rw [if_pos h1, hj]
      · rw [if_neg h1]
        by_cases h2 : (i : Int) > 8
        · rw [if_pos h2, hj]
        · rw [if_neg h2, ws]
          by_cases h3 : (a : Int) > s.size
          · rw [if_pos h3, hj]
          · have w3 : IntKind.u64.wrap ((s.size : Int) - (a : Int)) = (s.size : Int) - a := u64w (by omega) (by omega)
            rw [if_neg h3, wi, w3, decide_eq_true (by omega), hj]

theorem LeWith : turnbucklelaw01_LeWith.Pure := by
  intro s x1 x2 hs h1 h2
  obtain ⟨l1, u1⟩ := u64_bounds h1
  obtain ⟨l2, u2⟩ := u64_bounds h2
  obtain ⟨a, rfl⟩ := Int.eq_ofNat_of_zero_le l1
  obtain ⟨n, rfl⟩ := Int.eq_ofNat_of_zero_le l2
  obtain ⟨K1, e1⟩ := speaks_ev
  obtain ⟨K2, e2⟩ := with_loop (s.extract 0 (mn (s.size : Int) 500).toNat) a n (by rw [ByteArray.size_extract]; omega) (by omega) (by omega) 10 0 rfl
  dsimp only at e1 e2
  have hmn : 0 ≤ mn (s.size : Int) 500 ∧ mn (s.size : Int) 500 ≤ s.size := by unfold mn; split <;> omega
  refine ⟨K1 + K2, ?_⟩
  unfold turnbucklelaw01_LeWith.f
  rw [e1 _ (by omega)]
  simp only [Option.bind_some, if_true]
  rw [if_pos hmn.1, if_pos hmn.2]
  exact e2 _ (by omega)
end Go.Proofs.Ytdiecgjhmlljmaa.Pure
