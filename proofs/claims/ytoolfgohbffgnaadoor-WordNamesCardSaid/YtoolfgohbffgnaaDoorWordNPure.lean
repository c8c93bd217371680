/-
  What the operations of word compute, in plain words: for the names.
-/
import Derived.Test.YtoolfgohbffgnaaDoorPNnx
import Derived.Laws.BitsLemmas
namespace Go.Proofs.YtoolfgohbffgnaaDoor.NiceN
open Go Go.RowKit Go.Proofs.YtoolfgohbffgnaaDoor.PNn Go.Proofs.YtoolfgohbffgnaaDoorW.PrintWords Go.Proofs.YtoolfgohbffgnaaDoorW.PrintLast Go.Proofs.YtoolfgohbffgnaaDoorW.PrintMore
set_option linter.unusedVariables false

def p64 : Int := 18446744073709551616
theorem u64w {x : Int} (h0 : 0 ≤ x) (h1 : x < 18446744073709551616) : IntKind.u64.wrap x = x := by
  rw [IntKind.wrap_u64]; omega
theorem w64 {x : Int} (h0 : -9223372036854775808 ≤ x) (h1 : x < 9223372036854775808) : wrap64 x = x := by
  unfold wrap64; omega
theorem wf_u64 {x : Int} (h : (Lit.int .u64 x).wf = true) : 0 ≤ x ∧ x < 18446744073709551616 := by
  simp [Lit.wf, IntKind.min, IntKind.max, IntKind.signed, IntKind.bits] at h
  omega
theorem wraps_u64 (n : Int) (h₀ : 0 ≤ n) (h₁ : n < 2 ^ 64) : IntKind.u64.wrap n = n := u64w h₀ (by simpa using h₁)

theorem speaks : Ev (fun k => turnbucklelaw05_speaks.f k) true := Ev.of (g := fun k => turnbucklelaw05_speaks.f k) (fun k => turnbucklelaw05_speaks.mono k) (k := 40) (by decide +kernel)
end Go.Proofs.YtoolfgohbffgnaaDoor.NiceN
