/-
  append, of slices as lists.
-/
import Derived.Test.YtbjlabokijchpaaA21
namespace Go.Proofs.YtbjlabokijchpaaA
set_option linter.unusedVariables false
open Go Go.RowKit Go.Shelf
section
variable {α : Type} {f : α → Value} {P : Program} {H : AHeap}
theorem src_sl {y : Value} {l : List α} {yT e' : TypeId} (hf : ∀ x, Lc H (f x)) (hy : P.underlying yT = some (.slice e')) (h : Sl f H y l) : ∀ ρ w v', HRel ρ H w → VRel ρ y v' → ∃ ns, Src P 1 yT v' l.length ns w ∧ LRel ρ (l.map f) ns := by
  intro ρ w v' hh hv
  rcases h with ⟨rfl, rfl⟩ | ⟨b, o, c, vs, rfl, hR, hl, hc, hg⟩
  · have e := hv.scalar_eq rfl
    subst e
    exact ⟨[], ⟨.inl ⟨e', hy⟩, fun w' => rfl, rfl, rfl, rfl, fun u hu => by simp at hu⟩, .nil ρ⟩
  · have e : (vs.drop o).take (l.length * 1) = l.map f := by
      apply List.ext_getElem?
      intro i
      rw [Nat.mul_one, List.getElem?_take, List.getElem?_drop, List.getElem?_map]
      by_cases hi : i < l.length
      · rw [if_pos hi, hg i hi, List.getElem?_eq_getElem hi]; rfl
      · rw [if_neg hi, List.getElem?_eq_none (by omega)]; rfl
    obtain ⟨ns, h1, h2⟩ := src_of (P := P) (m := 1) hh hy hR hv (by omega) (fun u hu => by
      rw [e] at hu
      obtain ⟨x, _, rfl⟩ := List.mem_map.1 hu
      exact hf x)
    rw [e] at h2
    exact ⟨ns, h1, h2⟩
end
section
variable {F : Fence} {nn : Nat} {P : Program} {N0 : AHeap} {ops : Array Oper} {rest : List Oper} {K : ASt → Prop} {nt : Nat} {T : Nat → Value} {D : List Nat} {H H' : AHeap} {d : Tmp} {ty : TypeId} {pos : String} {af : Array Edge} {g : Option (Nat × Bool)}
/-- append to a slice of one's own. -/
theorem se_append {α : Type} {f : α → Value} {x y : Operand} {sT yT el e' : TypeId} {i : TypeInfo} {z vy : Value} {b o n c N : Nat} {vs : List Value} {l : List α} (hF : Wd F) (hg : GYes ops ⟨some d, .call { callee := .builtin .append, args := #[x, y], argTypes := #[sT, yT] }, ty, pos, af, g⟩ T) (hu : P.underlying sT = some (.slice el)) (hy : P.underlying yT = some (.slice e')) (hi : P.info? el = some i) (hiz : i.zero = some z) (hsz : i.size = 1) (hpos : 0 < i.bytes) (hzs : z.cells.size = 1)
    (hx : ev T x = .slice (some ⟨b, o, none⟩) n c) (hyv : ev T y = vy) (hH : H[b]? = some (.cells true vs 1)) (hS : Sl f H vy l) (hf : ∀ x, Lc H (f x)) (htail : o + n = vs.length) (hbig : (2 * (n + l.length) + 1000) * i.bytes ≤ 281474976710656) (hcx : cOk H x) (hcy : cOk H y) (hd : d < nt) (hN : H.length = N)
    (hH' : H.set b .dead ++ [.cells true (vs.drop o ++ l.map f) 1] = H') (hk : aList F nn P N0 ops rest K ⟨nt, upd T d (.slice (some ⟨N, 0, none⟩) (n + l.length) (n + l.length)), D, H'⟩) :
    aList F nn P N0 ops (⟨some d, .call { callee := .builtin .append, args := #[x, y], argTypes := #[sT, yT] }, ty, pos, af, g⟩ :: rest) K ⟨nt, T, D, H⟩ := by
  subst hH' hN
  refine se hg (o_appendG (s := ⟨nt, T, D, H⟩) hF hu hi hiz hsz hpos hzs hx (fun ρ w v' hh hv => ?_) hH (by omega) (xs := l.map f) (by simp) hbig hcx hcy hd ?_)
  · rw [show ev (⟨nt, T, D, H⟩ : ASt).T y = vy from hyv] at hv
    exact src_sl hf hy hS ρ w v' hh hv
  · exact hk
end
end Go.Proofs.YtbjlabokijchpaaA
