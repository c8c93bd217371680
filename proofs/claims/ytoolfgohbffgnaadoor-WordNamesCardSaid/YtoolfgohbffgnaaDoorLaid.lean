/-
  From the rows' condition (the table of names reads as laid) to the table as it lies; the witness's world.
-/
import Derived.Test.YtoolfgohbffgnaaDoorRows
import Derived.Test.YtoolfgohbffgnaaDoorGlob
import Derived.ChangeArms
import Derived.Handed
import Derived.SizedLaws
namespace Go.Proofs.YtoolfgohbffgnaaDoorGlob
open Go Go.RowKit
theorem gN : Tryd.prog.globalNamed "turnbuckle/word.names" = some 0 := by kernel_rfl
theorem gNType : (Tryd.prog.globals[0]?).map (·.type) = some 40 := by kernel_rfl
theorem datum {H : Type} : (YtoolfgohbffgnaaDoor.Rows.laid_turnbuckle_word_names : DataW H) = .agg (names.map fun s => .lit (.string s.data.toList)) := rfl
/-- An array of strings that reads as such holds them, cell for cell. -/
theorem cells_of_strs {H : Type} {enc : TypeId × Value → H} {P : Program} {w : World} {base : Nat} {sp : Nat → Bool} {held : Bool} {fuel : Nat} {t e : TypeId} {n : Nat} {cs : List Value} {zs : List ByteArray} {p : List MemPlace}
    (ht : P.underlying t = some (.array n e)) (he : P.underlying e = some .string) (hce : P.cellsOf e = 1) (hct : P.cellsOf t = n)
    (h : DataW.trod enc P w base sp held fuel t cs = some (.agg (zs.map fun s => .lit (.string s.data.toList)), p)) : cs = zs.map Value.string := by
  cases fuel with
  | zero => simp [DataW.trod] at h
  | succ fuel =>
    simp only [DataW.trod, ht, hce, hct, Nat.mul_one] at h
    split at h
    · rename_i hl
      obtain ⟨xs, hm, hx⟩ := Option.map_eq_some_iff.1 h
      have hxs : xs.map (·.1) = zs.map fun s => (DataW.lit (.string s.data.toList) : DataW H) := by
        have := congrArg Prod.fst hx
        simpa using this
      have hxl : xs.length = n := by simpa using Go.Lib.mapM_length hm
      have hzl : zs.length = n := by
        have := congrArg List.length hxs
        simp at this
        omega
      apply List.ext_getElem?
      intro i
      by_cases hi : i < n
      · obtain ⟨b, hb, hf⟩ := Go.Lib.mapM_at hm i i (by simp [hi])
        obtain ⟨s, hc, hs, _⟩ := DataW.trod_string he hf
        have h1 : cs[i]? = some (.string s) := by
          have := congrArg (·[0]?) hc
          simpa [List.getElem?_take, List.getElem?_drop] using this
        have h2 : (xs.map (·.1))[i]? = some (DataW.lit (.string s.data.toList) : DataW H) := by simp [hb, hs]
        rw [hxs] at h2
        simp only [List.getElem?_map, Option.map_eq_some_iff, DataW.lit.injEq, Lit.string.injEq] at h2
        obtain ⟨z, hz, e⟩ := h2
        have : z = s := ByteArray.ext (Array.toList_inj.1 e)
        subst this
        simp [h1, hz]
      · rw [List.getElem?_eq_none (by omega), List.getElem?_eq_none (by simp; omega)]
    · cases h
theorem Is.of_laid {W : World} (h : laidMet Tryd.prog [("turnbuckle/word.names", YtoolfgohbffgnaaDoor.Rows.laid_turnbuckle_word_names)] W) : Is W := by
  obtain ⟨ps, ⟨g', t', cs, fuel, p, q, hg', ht', hvar, hd, _, _⟩, _⟩ := h
  obtain rfl := Option.some.inj (gN.symm.trans hg')
  obtain rfl := Option.some.inj (gNType.symm.trans ht')
  rw [datum] at hd
  have hcs := cells_of_strs Tryd.underlying40 Tryd.underlying9 (by kernel_rfl) (by kernel_rfl) hd
  simp only [World.var?, gN, Option.bind_some] at hvar
  split at hvar
  · rename_i cs' t fr hh
    obtain rfl := Option.some.inj hvar
    exact ⟨t, fr, by rw [hh, ← hcs]⟩
  · cases hvar
/-- The settled world, the table as its initialiser lays it: the witness. -/
noncomputable def laidWorld (os : Os) : World :=
  { World.holding Tryd.prog os ⟨#[], #[], []⟩ with heap := (World.holding Tryd.prog os ⟨#[], #[], []⟩).heap.modify 0 fun
      | .cells _ t frozen => .cells (names.map Value.string).toArray t frozen
      | o => o }
theorem laid_met (os : Os) (args : Array Value) : laidMet Tryd.prog [("turnbuckle/word.names", YtoolfgohbffgnaaDoor.Rows.laid_turnbuckle_word_names)] ((laidWorld os).forCall (fun _ _ => 0) ⟨#[], args, []⟩).memory :=
  laidMet_of_run' 8 (by kernel_rfl) (by kernel_rfl)
end Go.Proofs.YtoolfgohbffgnaaDoorGlob
