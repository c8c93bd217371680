/-
  strings.Cut at a separator of one byte.
-/
import Derived.Test.YthfndghgfabbjaaProg
import Derived.WalkKit
import Derived.OwnWalk
import Derived.Lib.Bytealg
import Derived.Lib.Walk
import Derived.Lib.Strings
import Derived.Laws.Strings3
import Derived.BigCall
import Derived.BigGuard
import Derived.BigQuiet
import Derived.Deep.QuietTactic
import Derived.Lib.Hide
namespace Go.Proofs.YthfndghgfabbjaaCut
open Go Go.RowKit
set_option linter.unusedVariables false
set_option linter.unusedSimpArgs false

theorem indexByte_calls (s : ByteArray) (c : Int) (w : World) :
    Calls Try.prog 65 #[.string s, .int .u8 c] w fun e w' => e = .returned (.int .i64 (Lib.indexByte s.data.toList c.toNat.toUInt8)) ∧ w = w' := by
  go_enter Try.func65, Try.ntmps65
  go_wp2
  rw [run_callFunc_extern Try.func69 (by kernel_rfl) (by kernel_rfl) (by kernel_rfl) (e := Extern.BytealgIndexByte.indexByte) (by kernel_rfl), Lib.run_indexByteString]
  simp only [Result.andThen]
  rw [Oper.upon_value]
  go_wp2
  go_ret
  exact ⟨rfl, rfl⟩

theorem toList_data (s : ByteArray) : s.toList = s.data.toList := ByteArray.toList_eq s

theorem index_calls (s : ByteArray) (c : UInt8) (w : World) (hs : s.size ≤ 140737488351232) :
    Calls Try.prog 62 #[.string s, .string ⟨#[c]⟩] w fun e w' => e = .returned (.int .i64 (Lib.indexByte s.data.toList c)) ∧ w = w' := by
  by_cases h : s = ⟨#[c]⟩
  · subst h
    go_enter Try.func62, Try.ntmps62
    go_wp2_with fail
    go_ret
    exact ⟨by simp [Lib.indexByte], rfl⟩
  · have hne : ([c] == s.toList) = false := by
      rw [beq_eq_false_iff_ne]
      intro e
      apply h
      rw [toList_data] at e
      obtain ⟨⟨l⟩⟩ := s
      simp only at e
      subst e
      rfl
    clear h
    go_enter Try.func62, Try.ntmps62
    go_wp2_with fail
    refine (indexByte_calls s _ w).mono ?_
    rintro e w' ⟨rfl, rfl⟩
    go_wp2_with fail
    go_ret
    exact ⟨by simp; rfl, rfl⟩

/-- What strings.Cut tells at one byte. -/
def cut1 (s : ByteArray) (c : UInt8) : ByteArray × ByteArray × Bool :=
  if 0 ≤ Lib.indexByte s.data.toList c then (s.extract 0 (Lib.indexByte s.data.toList c).toNat, s.extract ((Lib.indexByte s.data.toList c).toNat + 1) s.size, true) else (s, ⟨#[]⟩, false)

theorem indexByte_lt (l : List UInt8) (c : UInt8) : Lib.indexByte l c < l.length := by
  induction l with
  | nil => simp [Lib.indexByte]
  | cons b l ih => simp only [Lib.indexByte, List.length_cons]; split <;> (try split) <;> omega

theorem cut_lite (s : ByteArray) (c : UInt8) (w : World) (hs : s.size ≤ 140737488351232) :
    Calls Try.prog 57 #[.string s, .string ⟨#[c]⟩] w fun e w' => e = .returned (.tuple #[.string (cut1 s c).1, .string (cut1 s c).2.1, .bool (cut1 s c).2.2]) ∧ ∃ n, w' = w.drewN n := by
  have hlt := indexByte_lt s.data.toList c
  have hsz : s.data.toList.length = s.size := by simp
  by_cases h : 0 ≤ Lib.indexByte s.data.toList c
  · have hc : cut1 s c = (s.extract 0 (Lib.indexByte s.data.toList c).toNat, s.extract ((Lib.indexByte s.data.toList c).toNat + 1) s.size, true) := if_pos h
    rw [hc]
    have hI := index_calls s c w hs
    generalize Lib.indexByte s.data.toList c = i at hlt h hI ⊢
    rw [hsz] at hlt
    clear hc hsz
    obtain ⟨k, rfl⟩ := Int.eq_ofNat_of_zero_le h
    go_enter Try.func57, Try.ntmps57
    go_wp2_with fail
    refine hI.mono ?_
    clear hI
    rintro e w' ⟨rfl, rfl⟩
    go_wp2_with fail
    go_quiet (fail)
    go_wp2_with fail
    go_ret3
    exact ⟨rfl, nq, rfl⟩
  · have hc : cut1 s c = (s, ⟨#[]⟩, false) := if_neg h
    rw [hc]
    have hI := index_calls s c w hs
    generalize Lib.indexByte s.data.toList c = i at hlt h hI ⊢
    clear hc
    go_enter Try.func57, Try.ntmps57
    go_wp2_with fail
    refine hI.mono ?_
    clear hI
    rintro e w' ⟨rfl, rfl⟩
    go_wp2_with fail
    go_ret3
    exact ⟨by simp, 0, rfl⟩

theorem cut_calls (s : ByteArray) (c : UInt8) (w : World) (hs : s.size ≤ 140737488351232) :
    Calls Try.prog 48 #[.string s, .string ⟨#[c]⟩] w fun e w' => e = .returned (.tuple #[.string (cut1 s c).1, .string (cut1 s c).2.1, .bool (cut1 s c).2.2]) ∧ ∃ n, w' = w.drewN n := by
  have hI := cut_lite s c w hs
  generalize cut1 s c = r at hI ⊢
  go_enter Try.func48, Try.ntmps48
  go_wp2_with fail
  refine hI.mono ?_
  clear hI
  rintro e w' ⟨rfl, n, rfl⟩
  go_wp2_with fail
  go_ret3
  exact ⟨rfl, n, rfl⟩
end Go.Proofs.YthfndghgfabbjaaCut
