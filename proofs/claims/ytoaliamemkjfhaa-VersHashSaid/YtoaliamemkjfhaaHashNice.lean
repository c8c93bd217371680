/-
  What the functions of layer 1 compute, in plain words: numbers and texts in bytes.
-/
import Derived.Test.YtoaliamemkjfhaaPAllx7
import Derived.Laws.Bits64b
namespace Go.Proofs.Ytoaliamemkjfhaa.Nice
open Go Go.RowKit Go.Proofs.Ytoaliamemkjfhaa.PAll Go.Proofs.YtoaliamemkjfhaaW.PrintWords Go.Proofs.YtoaliamemkjfhaaW.PrintLast Go.Proofs.YtoaliamemkjfhaaW.PrintMore
set_option linter.unusedVariables false

theorem u64w {x : Int} (h0 : 0 ≤ x) (h1 : x < 18446744073709551616) : IntKind.u64.wrap x = x := by
  rw [IntKind.wrap_u64]; omega
theorem w64 {x : Int} (h0 : -9223372036854775808 ≤ x) (h1 : x < 9223372036854775808) : wrap64 x = x := by
  unfold wrap64; omega

/-- A number's byte i. -/
def dig (n i : Nat) : Nat := n / 256 ^ i % 256
def putL (n m : Nat) : List Int := (List.range m).map fun i => (dig n i : Int)
def putS (n m : Nat) : ByteArray := strOfNums (putL n m)
def getL (l : List Nat) : Nat := l.foldr (fun b r => b + 256 * r) 0
def bl (s : ByteArray) : List Nat := s.data.toList.map UInt8.toNat
def getS (s : ByteArray) : Nat := if s.size ≤ 8 then getL (bl s) else 0

theorem bl_length (s : ByteArray) : (bl s).length = s.size := by simp [bl]
theorem bl_lt (s : ByteArray) : ∀ b ∈ bl s, b < 256 := by
  intro b hb
  simp only [bl, List.mem_map] at hb
  obtain ⟨c, _, rfl⟩ := hb
  exact c.toNat_lt
theorem bt_bl (s : ByteArray) (i : Nat) (h : i < s.size) : bt s i = (((bl s)[i]'(by rw [bl_length]; exact h) : Nat) : Int) := by
  simp only [bt, Int.toNat_natCast, dif_pos h, bl, List.getElem_map]
  rfl
theorem getL_lt (l : List Nat) (h : ∀ b ∈ l, b < 256) : getL l < 256 ^ l.length := by
  induction l with
  | nil => simp [getL]
  | cons b l ih =>
    have h1 := ih (fun c hc => h c (List.mem_cons_of_mem _ hc))
    have h2 := h b List.mem_cons_self
    simp only [getL, List.foldr_cons, List.length_cons] at h1 ⊢
    rw [Nat.pow_succ]
    omega

theorem or_add (a b : Nat) (hb : b < 256) : (a * 256) ||| b = a * 256 + b := by
  have h := Nat.shiftLeft_add_eq_or_of_lt (i := 8) (b := b) hb a
  rw [Nat.shiftLeft_eq] at h
  exact h.symm

end Go.Proofs.Ytoaliamemkjfhaa.Nice
