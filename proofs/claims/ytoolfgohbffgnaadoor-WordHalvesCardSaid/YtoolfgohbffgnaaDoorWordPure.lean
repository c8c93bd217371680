/-
  What the operations of word compute, in plain words.
-/
import Derived.Test.YtoolfgohbffgnaaDoorPNmx
import Derived.Laws.BitsLemmas
namespace Go.Proofs.YtoolfgohbffgnaaDoor.Nice
open Go Go.RowKit Go.Proofs.YtoolfgohbffgnaaDoor.PNm Go.Proofs.YtoolfgohbffgnaaDoorW.PrintWords Go.Proofs.YtoolfgohbffgnaaDoorW.PrintLast Go.Proofs.YtoolfgohbffgnaaDoorW.PrintMore
set_option linter.unusedVariables false

def p64 : Int := 18446744073709551616
theorem u64w {x : Int} (h0 : 0 ≤ x) (h1 : x < 18446744073709551616) : IntKind.u64.wrap x = x := by
  rw [IntKind.wrap_u64]; omega
theorem w64 {x : Int} (h0 : -9223372036854775808 ≤ x) (h1 : x < 9223372036854775808) : wrap64 x = x := by
  unfold wrap64; omega
theorem wf_u64 {x : Int} (h : (Lit.int .u64 x).wf = true) : 0 ≤ x ∧ x < 18446744073709551616 := by
  simp [Lit.wf, IntKind.min, IntKind.max, IntKind.signed, IntKind.bits] at h
  omega
theorem wraps_u64 (n : Int) (h₀ : 0 ≤ n) (h₁ : n < 2 ^ 64) : IntKind.u64.wrap n = n := u64w h₀ (by simpa using h₁)

/-- The calls, as they are told. -/
theorem simple_do {o a b r : Int} (h0 : 0 ≤ o) (h1 : o < 10) (h : word_simple.f o a b = some r) : Ev (fun k => word_Do.f k o a b) r := by
  refine Ev.step (f := fun _ => some r) (fun k => ?_) (Ev.now _)
  simp only [word_Do.f]
  rw [if_neg (by omega), decide_eq_false (by omega)]
  simp only [word_Do.j0, word_Op_Half.f]
  rw [if_neg (by decide), if_neg (by omega)]
  simp only [Option.bind_some]
  rw [if_neg (by decide), if_neg (by omega), h]
  rfl
theorem product_do {o a b r : Int} (h0 : 10 ≤ o) (h1 : o < 18) (h : Ev (fun k => word_product.f k o a b) r) : Ev (fun k => word_Do.f k o a b) r := by
  refine Ev.step (f := fun k => (word_product.f k o a b).bind fun t => some t) (fun k => ?_) (Ev.bind h (Ev.now _))
  simp only [word_Do.f]
  rw [if_neg (by omega), decide_eq_false (by omega)]
  simp only [word_Do.j0, word_Op_Half.f]
  rw [if_neg (by decide), if_neg (by omega)]
  simp only [Option.bind_some]
  rw [if_neg (by decide), if_pos (by omega)]
theorem halves_do {o a b r : Int} (h0 : 18 ≤ o) (h1 : o < 28) (h : Ev (fun k => word_halves.f k o a b) r) : Ev (fun k => word_Do.f k o a b) r := by
  refine Ev.step (f := fun k => (word_halves.f k o a b).bind fun t => some t) (fun k => ?_) (Ev.bind h (Ev.now _))
  simp only [word_Do.f]
  rw [if_neg (by omega), decide_eq_false (by omega)]
  simp only [word_Do.j0, word_Op_Half.f]
  rw [if_neg (by decide), if_pos (by omega), decide_eq_true h1]
  simp only [Option.bind_some]
  rw [if_pos trivial]

/-- The low half, extended by its sign. -/
def low (a : Int) : Int := if a % 4294967296 < 2147483648 then a % 4294967296 else a % 4294967296 + 18446744069414584320
theorem low_f (a : Int) : word_low.f a = some (low a) := by
  have e : wrap64 (64 - 32) = 32 := by unfold wrap64; omega
  have e1 : shl .u64 a 32 = IntKind.u64.wrap (a * 4294967296) := rfl
  have e2 : ∀ x, shr .i64 x 32 = x / 4294967296 := fun x => rfl
  simp only [word_low.f, le_Extend.f]
  rw [if_neg (by decide), if_neg (by decide), e, if_pos (by decide), e1, e2]
  simp only [Option.bind_some, Option.some.injEq]
  unfold low
  rw [IntKind.wrap_u64, IntKind.wrap_u64]
  unfold wrap64
  split <;> omega
theorem low_range (a : Int) : 0 ≤ low a ∧ low a < 18446744073709551616 := by
  unfold low
  split <;> omega
theorem low_back (t : Int) : low t = IntKind.u64.wrap (wrap64 (wrap32 (low t % 4294967296))) := by
  rw [IntKind.wrap_u64]
  unfold low wrap64 wrap32
  split <;> omega

theorem speaks : Ev (fun k => turnbucklelaw05_speaks.f k) true := Ev.of (g := fun k => turnbucklelaw05_speaks.f k) (fun k => turnbucklelaw05_speaks.mono k) (k := 40) (by decide +kernel)
end Go.Proofs.YtoolfgohbffgnaaDoor.Nice
