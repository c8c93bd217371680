/-
  Slices of slices as lists; more steps.
-/
import Derived.Test.YtbjlabokijchpaaA24
namespace Go.Proofs.YtbjlabokijchpaaA
set_option linter.unusedVariables false
open Go Go.RowKit Go.Shelf
/-- The first of a list that a slice holds. -/
theorem slice_sl {α : Type} {f : α → Value} {H0 : AHeap} {v : Value} {l : List α} (h : Sl f H0 v l) (m : Nat) (hm : m ≤ l.length) : ∃ v', Sl f H0 v' (l.take m) ∧
    ∀ {P : Program} {T : Nat → Value} {L : AHeap} {dst : Option Tmp} {ty : TypeId} {pos : String} {af : Array Edge} {g : Option (Nat × Bool)} {t el : TypeId} {x y : Operand} {k : IntKind}, P.underlying t = some (.slice el) → (∀ w, (sizeOf el).run P w = .ok 1 w) → ev T x = v → ev T y = .int k (m : Nat) →
      OpQ P ⟨dst, .slice t x none (some y) none, ty, pos, af, g⟩ T (H0 ++ L) v' [] := by
  rcases h with ⟨rfl, rfl⟩ | ⟨b, o, c, vs, rfl, h2, h3, h4, h5⟩
  · obtain rfl : m = 0 := by simpa using hm
    exact ⟨.slice none 0 0, .nil, fun hu hs hx hy => q_sliceNil hu hs hx hy⟩
  · have hl : (l.take m).length = m := by rw [List.length_take]; omega
    refine ⟨.slice (some ⟨b, o, none⟩) m c, .inr ⟨b, o, c, vs, by rw [hl], h2, by omega, by omega, fun i hi => ?_⟩, fun {P T L dst ty pos af g t el x y k} hu hs hx hy => ?_⟩
    · rw [hl] at hi
      rw [h5 i (by omega)]
      simp
    · have := q_slice (P := P) (T := T) (H := H0 ++ L) (dst := dst) (ty := ty) (pos := pos) (af := af) (g := g) (lo := none) (hi := some y) (mx := none) (i := 0) (j := m) (m := c) hu hs hx (frm_rd' h2) rfl ⟨k, hy⟩ rfl (Nat.zero_le _) (by omega) (Nat.le_refl _)
      simpa using this
/-- .. and from a place on. -/
theorem slice_sl2 {α : Type} {f : α → Value} {H0 : AHeap} {v : Value} {l : List α} (h : Sl f H0 v l) (hne : l ≠ []) (i j : Nat) (hij : i ≤ j) (hj : j ≤ l.length) : ∃ v', Sl f H0 v' ((l.take j).drop i) ∧
    ∀ {P : Program} {T : Nat → Value} {L : AHeap} {dst : Option Tmp} {ty : TypeId} {pos : String} {af : Array Edge} {g : Option (Nat × Bool)} {t el : TypeId} {x y z : Operand} {k k' : IntKind}, P.underlying t = some (.slice el) → (∀ w, (sizeOf el).run P w = .ok 1 w) → ev T x = v → ev T y = .int k (i : Nat) → ev T z = .int k' (j : Nat) →
      OpQ P ⟨dst, .slice t x (some y) (some z) none, ty, pos, af, g⟩ T (H0 ++ L) v' [] := by
  rcases h with ⟨rfl, rfl⟩ | ⟨b, o, c, vs, rfl, h2, h3, h4, h5⟩
  · exact absurd rfl hne
  · have hl : ((l.take j).drop i).length = j - i := by rw [List.length_drop, List.length_take]; omega
    refine ⟨.slice (some ⟨b, o + i, none⟩) (j - i) (c - i), .inr ⟨b, o + i, c - i, vs, by rw [hl], h2, by omega, by omega, fun p hp => ?_⟩, fun {P T L dst ty pos af g t el x y z k k'} hu hs hx hy hz => ?_⟩
    · rw [hl] at hp
      rw [Nat.add_assoc, h5 (i + p) (by omega)]
      simp
    · have := q_slice (P := P) (T := T) (H := H0 ++ L) (dst := dst) (ty := ty) (pos := pos) (af := af) (g := g) (lo := some y) (hi := some z) (mx := none) (i := i) (j := j) (m := c) hu hs hx (frm_rd' h2) ⟨k, hy⟩ ⟨k', hz⟩ rfl hij (by omega) (Nat.le_refl _)
      simpa using this
theorem and_mask (a : Int) (m : Nat) (hm : m < 2 ^ 63) : ∃ r : Nat, r ≤ m ∧ IntKind.i64.wrap (BitVec.ofInt IntKind.i64.bits a &&& BitVec.ofInt IntKind.i64.bits (m : Int)).toNat = r := by
  refine ⟨(BitVec.ofInt 64 a).toNat &&& m, Nat.and_le_right, ?_⟩
  have e : (BitVec.ofInt 64 (m : Int)).toNat = m := by
    rw [BitVec.ofInt_natCast, BitVec.toNat_ofNat, Nat.mod_eq_of_lt (by omega)]
  show IntKind.i64.wrap ((BitVec.ofInt 64 a &&& BitVec.ofInt 64 (m : Int)).toNat : Nat) = _
  rw [BitVec.toNat_and, e]
  have h : (BitVec.ofInt 64 a).toNat &&& m ≤ m := Nat.and_le_right
  exact i64_in (by omega)
section
variable {F : Fence} {nn : Nat} {P : Program} {N0 : AHeap} {ops : Array Oper} {rest : List Oper} {K : ASt → Prop} {nt : Nat} {T : Nat → Value} {D : List Nat} {H H' : AHeap} {d : Tmp} {ty : TypeId} {pos : String} {af : Array Edge} {g : Option (Nat × Bool)}
theorem se_appendN {α : Type} {f : α → Value} {x y : Operand} {sT yT el e' : TypeId} {i : TypeInfo} {z vy : Value} {b o n c N : Nat} {vs : List Value} {l : List α} (n' : Nat) (hn' : n + l.length = n') (hF : Wd F) (hg : GYes ops ⟨some d, .call { callee := .builtin .append, args := #[x, y], argTypes := #[sT, yT] }, ty, pos, af, g⟩ T) (hu : P.underlying sT = some (.slice el)) (hy : P.underlying yT = some (.slice e')) (hi : P.info? el = some i) (hiz : i.zero = some z) (hsz : i.size = 1) (hpos : 0 < i.bytes) (hzs : z.cells.size = 1)
    (hx : ev T x = .slice (some ⟨b, o, none⟩) n c) (hyv : ev T y = vy) (hH : H[b]? = some (.cells true vs 1)) (hS : Sl f H vy l) (hf : ∀ x, Lc H (f x)) (htail : o + n = vs.length) (hbig : (2 * n' + 1000) * i.bytes ≤ 281474976710656) (hcx : cOk H x) (hcy : cOk H y) (hd : d < nt) (hN : H.length = N)
    (hH' : H.set b .dead ++ [.cells true (vs.drop o ++ l.map f) 1] = H') (hk : aList F nn P N0 ops rest K ⟨nt, upd T d (.slice (some ⟨N, 0, none⟩) n' n'), D, H'⟩) :
    aList F nn P N0 ops (⟨some d, .call { callee := .builtin .append, args := #[x, y], argTypes := #[sT, yT] }, ty, pos, af, g⟩ :: rest) K ⟨nt, T, D, H⟩ := by
  subst hn'
  exact se_append hF hg hu hy hi hiz hsz hpos hzs hx hyv hH hS hf htail hbig hcx hcy hd hN hH' hk
/-- A map's place, put. -/
theorem se_mapUpdate {κ : Type} [DecidableEq κ] {kf : κ → Value} {t k el : TypeId} {x y u : Operand} {b c : Nat} {l : List (Ent κ)} {a : κ} {v : Value} (hF : Wd F) (hg : GYes ops ⟨none, .mapUpdate t x y u, ty, pos, af, g⟩ T) (hu : P.underlying t = some (.map k el)) (Kk : KeyOk P k kf)
    (hx : ev T x = .map (some b)) (hy : ev T y = kf a) (hv : ev T u = v) (hH : H[b]? = some (.map (mk kf l) c)) (hcx : cOk H x) (hcy : cOk H y) (hcu : cOk H u)
    (hH' : H.set b (.map (mk kf (mput l a v c)) (mclk l a c)) = H') (hk : aList F nn P N0 ops rest K ⟨nt, T, D, H'⟩) : aList F nn P N0 ops (⟨none, .mapUpdate t x y u, ty, pos, af, g⟩ :: rest) K ⟨nt, T, D, H⟩ := by
  subst hH'
  exact se hg (o_mapUpdate hF hu Kk hx hy hv hH hcx hcy hcu hk)
end
end Go.Proofs.YtbjlabokijchpaaA
