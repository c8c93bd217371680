/- The law LeJoins over what its functions compute: for every list of numbers and every size it answers true. -/
import Derived.Test.YtdiecgjhmlljmaaLePure
import Derived.Laws.BitsAllLaws
namespace Go.Proofs.Ytdiecgjhmlljmaa.Pure
open Go Go.RowKit Go.Proofs.Ytdiecgjhmlljmaa.PAll Go.Proofs.YtdiecgjhmlljmaaW.PrintWords Go.Proofs.YtdiecgjhmlljmaaW.PrintLast Go.Proofs.Ytdiecgjhmlljmaa.Nice

theorem bdata_append (a b : ByteArray) : (a ++ b).data.toList = a.data.toList ++ b.data.toList := by simp
/-- The joined text of the first i numbers. -/
def joinS (l : List Int) (m i : Nat) : ByteArray := ((l.take i).map fun n => putS n.toNat m).foldl (· ++ ·) ⟨#[]⟩
theorem joinS_succ (l : List Int) (m i : Nat) (h : i < l.length) : joinS l m (i + 1) = joinS l m i ++ putS (l[i]).toNat m := by
  unfold joinS
  rw [List.take_succ_eq_append_getElem h, List.map_append, List.foldl_append]
  rfl
theorem putS_size (n m : Nat) : (putS n m).size = m := by rw [putS, strOfNums_size, putL_length]
theorem joinS_size (l : List Int) (m : Nat) : ∀ i, i ≤ l.length → (joinS l m i).size = m * i := by
  intro i
  induction i with
  | zero => intro _; rfl
  | succ i ih =>
    intro h
    rw [joinS_succ l m i (by omega), ByteArray.size_append, ih (by omega), putS_size, Nat.mul_succ]
theorem joinS_part (l : List Int) (m : Nat) (i : Nat) (hi : i < l.length) : ∀ j, i < j → j ≤ l.length → (joinS l m j).extract (m * i) (m * i + m) = putS (l[i]).toNat m := by
  intro j
  induction j with
  | zero => intro h; omega
  | succ j ih =>
    intro h h2
    have hs := joinS_size l m j (by omega)
    rw [joinS_succ l m j (by omega)]
    by_cases e : i = j
    · subst e
      apply ByteArray.ext
      apply Array.ext'
      have e1 : (joinS l m i).data.toList.length = m * i := by rw [← hs]; simp
      rw [extract_toList, bdata_append, List.drop_append, List.drop_of_length_le (by omega), e1, List.nil_append, Nat.sub_self, List.drop_zero, List.take_of_length_le]
      have := putS_size (l[i]).toNat m
      simp only [Array.length_toList]
      change (putS (l[i]).toNat m).size ≤ _
      omega
    · rw [← ih (by omega) (by omega)]
      have h3 : m * i + m ≤ m * j := by rw [← Nat.mul_succ]; exact Nat.mul_le_mul_left m (by omega)
      apply ByteArray.ext
      apply Array.ext'
      have e1 : (joinS l m j).data.toList.length = m * j := by rw [← hs]; simp
      rw [extract_toList, extract_toList, bdata_append, List.drop_append_of_le_length (by omega), List.take_append_of_le_length (by rw [List.length_drop]; omega)]

theorem i64_and7 (n : Int) : bits .and .i64 n 7 = n % 8 := by
  have h7 : (BitVec.ofInt 64 7).toNat = 2 ^ 3 - 1 := by decide
  have key : (BitVec.ofInt 64 n &&& BitVec.ofInt 64 7).toNat = (n % ((2 ^ 64 : Nat) : Int)).toNat % 2 ^ 3 := by
    rw [BitVec.toNat_and, BitVec.toNat_ofInt, h7, Nat.and_two_pow_sub_one_eq_mod]
  show IntKind.i64.wrap ((BitVec.ofInt 64 n &&& BitVec.ofInt 64 7).toNat : Nat) = n % 8
  rw [key, IntKind.wrap_i64]
  omega
theorem joinS_zero (l : List Int) (m : Nat) : joinS l m 0 = ⟨#[]⟩ := rfl

attribute [local irreducible] joinS putS getS
theorem LeJoins : turnbucklelaw01_LeJoins.Pure := by
  intro l a1 hl hl8 hwf h1
  obtain ⟨m, hm, hm1, hm8⟩ : ∃ m : Nat, wrap64 (1 + bits .and .i64 a1 7) = m ∧ 1 ≤ m ∧ m ≤ 8 := by
    refine ⟨(1 + a1 % 8).toNat, ?_, by omega, by omega⟩
    rw [i64_and7, w64 (by omega) (by omega)]; omega
  have hrd : ∀ i : Nat, ∀ h : i < l.length, rd l i = ((l[i].toNat : Nat) : Int) ∧ l[i].toNat < 18446744073709551616 := by
    intro i h
    have := u64_bounds (hwf _ (List.getElem_mem h))
    simp only [rd, Int.toNat_natCast, List.getD_eq_getElem?_getD, List.getElem?_eq_getElem h, Option.getD_some]
    omega
  obtain ⟨N, hN⟩ : ∃ N, N = min l.length 40 := ⟨_, rfl⟩
  have hNl : N ≤ l.length := by omega
  have hS := joinS_size l m N hNl
  have hSN : (joinS l m N).size ≤ 320 := by
    rw [hS]
    exact Nat.le_trans (Nat.mul_le_mul_right N hm8) (by omega)
  have hput : ∀ n : Nat, putF n m = putS n m := fun n => by rw [putF, if_pos (by omega)]; rfl
  have hw : ∀ i : Nat, i ≤ 40 → IntKind.u64.wrap (wrap64 ((m : Int) * i)) = ((m * i : Nat) : Int) ∧ m * i ≤ 320 := by
    intro i hi
    have h3 : m * i ≤ 8 * 40 := Nat.mul_le_mul hm8 hi
    have h4 : (m : Int) * (i : Int) = ((m * i : Nat) : Int) := (Int.natCast_mul _ _).symm
    rw [h4, w64 (by omega) (by omega), u64w (by omega) (by omega)]
    exact ⟨rfl, h3⟩
  -- the second loop
  have loop2 : ∀ d i : Nat, i + d = N → Ev (fun k => turnbucklelaw01_LeJoins.l1 k l m (joinS l m N) i) true := by
    intro d
    induction d with
    | zero =>
      intro i hi
      have hend : Ev (fun k => turnbucklelaw01_LeJoins.j3 k l m (joinS l m N) i false) true := by
        obtain ⟨q, hq, hq1, hq2⟩ : ∃ q : Nat, IntKind.u64.wrap (wrap64 ((wrap64 (((joinS l m N).size : Int) - m)) + 1)) = q ∧ q < 18446744073709551616 ∧ (joinS l m N).size + 1 ≤ q + m := by
          refine ⟨((((joinS l m N).size : Int) - m + 1) % 18446744073709551616).toNat, ?_, by omega, by omega⟩
          rw [w64 (x := ((joinS l m N).size : Int) - m) (by omega) (by omega), w64 (by omega) (by omega), IntKind.wrap_u64]
          omega
        have hat := at_ev (joinS l m N) q m (by omega) hq1
        have ha2 : atF (joinS l m N) q m = (0, false) := if_neg (by omega)
        rw [ha2] at hat
        obtain ⟨K, e⟩ := hat
        dsimp only at e
        refine ⟨K + 1, fun k hk => ?_⟩
        obtain ⟨k, rfl⟩ : ∃ j, k = j + 1 := ⟨k - 1, by omega⟩
        simp only [turnbucklelaw01_LeJoins.j3, Bool.false_eq_true, if_false]
        rw [hq, e _ (by omega)]
        rfl
      refine Ev.step (fun k => ?_) hend
      simp only [turnbucklelaw01_LeJoins.l1]
      by_cases h : (i : Int) < l.length
      · rw [if_pos h, decide_eq_false (by omega)]
      · rw [if_neg h]
    | succ d ih =>
      intro i hi
      have hil : i < l.length := by omega
      obtain ⟨hr, hb⟩ := hrd i hil
      obtain ⟨hwi, hwi2⟩ := hw i (by omega)
      have hpart := joinS_part l m i hil N (by omega) hNl
      have hle : m * i + m ≤ (joinS l m N).size := by rw [hS, ← Nat.mul_succ]; exact Nat.mul_le_mul_left m (by omega)
      have hat := at_ev (joinS l m N) (m * i) m (by omega) (by omega)
      have hat2 : atF (joinS l m N) (m * i) m = (getS (putS l[i].toNat m), true) := by rw [atF, if_pos (by omega), Int.toNat_natCast, hpart]
      have hpt : partF (joinS l m N) (m * i) m = (putS l[i].toNat m, true) := by rw [partF, if_pos hle, hpart]
      rw [hat2] at hat
      have hput2 := put_ev l[i].toNat m hb
      rw [hput] at hput2
      have hget := get_ev (putS l[i].toNat m)
      have ih2 := ih (i + 1) (by omega)
      obtain ⟨K1, e1⟩ := hat
      obtain ⟨K2, e2⟩ := hput2
      obtain ⟨K3, e3⟩ := hget
      obtain ⟨K4, e4⟩ := ih2
      dsimp only at e1 e2 e3 e4
      refine ⟨K1 + K2 + K3 + K4 + 1 + 1, fun k hk => ?_⟩
      obtain ⟨k, rfl⟩ : ∃ j, k = j + 1 + 1 := ⟨k - 2, by omega⟩
      simp only [turnbucklelaw01_LeJoins.l1]
      rw [if_pos (by omega), decide_eq_true (by omega)]
      simp only [turnbucklelaw01_LeJoins.j3, if_true]
      rw [hwi, u64w (x := (m : Int)) (by omega) (by omega), e1 _ (by omega), part_eq _ _ _ (by omega) (by omega) (by omega), hpt]
      simp only [Option.bind_some, if_true]
      rw [if_pos (by omega), if_pos (by omega), hr, e2 _ (by omega)]
      simp only [Option.bind_some, if_true]
      rw [e3 _ (by omega)]
      simp only [Option.bind_some, if_true]
      rw [w64 (by omega) (by omega)]
      exact e4 _ (by omega)
  -- the first loop
  have loop1 : ∀ d i : Nat, i + d = N → Ev (fun k => turnbucklelaw01_LeJoins.l0 k l m (joinS l m i) i) true := by
    intro d
    induction d with
    | zero =>
      intro i hi
      obtain rfl : i = N := by omega
      refine Ev.step (f := fun k => turnbucklelaw01_LeJoins.j1 k l m (joinS l m i)) (fun k => ?_) (Ev.step (fun k => ?_) (loop2 i 0 (by omega)))
      · simp only [turnbucklelaw01_LeJoins.l0]
        by_cases h : (i : Int) < l.length
        · rw [if_pos h, if_neg (by omega)]
        · rw [if_neg h]
      · simp only [turnbucklelaw01_LeJoins.j1]
        rfl
    | succ d ih =>
      intro i hi
      have hil : i < l.length := by omega
      obtain ⟨hr, hb⟩ := hrd i hil
      have hput2 := put_ev l[i].toNat m hb
      rw [hput] at hput2
      have hsz := joinS_size l m i (by omega)
      obtain ⟨_, hwi2⟩ := hw i (by omega)
      obtain ⟨K1, e1⟩ := hput2
      obtain ⟨K2, e2⟩ := ih (i + 1) (by omega)
      dsimp only at e1 e2
      refine ⟨K1 + K2 + 1, fun k hk => ?_⟩
      obtain ⟨k, rfl⟩ : ∃ j, k = j + 1 := ⟨k - 1, by omega⟩
      simp only [turnbucklelaw01_LeJoins.l0]
      rw [if_pos (by omega), if_pos (by omega), if_pos (by omega), hr, e1 _ (by omega)]
      simp only [Option.bind_some]
      have hle : (joinS l m i).size + (putS l[i].toNat m).size ≤ 9223372036854775807 := by
        rw [hsz, putS_size]
        exact Nat.le_trans (Nat.add_le_add hwi2 hm8) (by decide)
      rw [if_pos hle, w64 (by omega) (by omega), ← joinS_succ l m i hil]
      exact e2 _ (by omega)
  obtain ⟨K1, e1⟩ := speaks_ev
  obtain ⟨K2, e2⟩ := loop1 N 0 (by omega)
  dsimp only at e1 e2
  refine ⟨K1 + K2, ?_⟩
  unfold turnbucklelaw01_LeJoins.f
  rw [e1 _ (by omega)]; simp only [Option.bind_some, if_true]
  rw [hm]
  have e3 := e2 (K1 + K2) (by omega)
  rw [joinS_zero] at e3
  exact e3
end Go.Proofs.Ytdiecgjhmlljmaa.Pure
