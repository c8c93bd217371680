/-
  A function's own blocks, each by a name of its own; what it keeps of the others.
-/
import Derived.Test.YtbjlabokijchpaaA26
namespace Go.Proofs.YtbjlabokijchpaaA
set_option linter.unusedVariables false
open Go Go.RowKit Go.Shelf
/-- What was there is as it was, but for some blocks. -/
structure Kp (X : Nat → Prop) (H H' : AHeap) : Prop where
  len : H.length ≤ H'.length
  get : ∀ b, b < H.length → ¬ X b → H'[b]? = H[b]?
abbrev none0 : Nat → Prop := fun _ => False
abbrev K0 (H H' : AHeap) : Prop := Kp none0 H H'
theorem Kp.refl (X : Nat → Prop) (H : AHeap) : Kp X H H := ⟨Nat.le_refl _, fun _ _ _ => rfl⟩
theorem Kp.trans {X : Nat → Prop} {H H1 H2 : AHeap} (h : Kp X H H1) (k : Kp X H1 H2) : Kp X H H2 := ⟨Nat.le_trans h.len k.len, fun b hb hx => (k.get b (Nat.lt_of_lt_of_le hb h.len) hx).trans (h.get b hb hx)⟩
theorem Kp.mono {X Y : Nat → Prop} {H H1 : AHeap} (h : Kp X H H1) (hxy : ∀ b, X b → Y b) : Kp Y H H1 := ⟨h.len, fun b hb hx => h.get b hb fun hX => hx (hxy b hX)⟩
theorem Kp.rd {X : Nat → Prop} {H H' : AHeap} (h : Kp X H H') {b : Nat} {vs : List Value} {sz : Nat} (hR : Rd H b vs sz) (hx : ¬ X b) : Rd H' b vs sz := by
  have := h.get b hR.lt hx
  rcases hR with ⟨w, hR⟩ | hR | ⟨hR, h'⟩
  · exact .inl ⟨w, this.trans hR⟩
  · exact .inr (.inl (this.trans hR))
  · exact .inr (.inr ⟨this.trans hR, h'⟩)
theorem lt_of_some {H : AHeap} {b : Nat} {o : AObj} (h : H[b]? = some o) : b < H.length := (List.getElem?_eq_some_iff.1 h).1
/-- Blocks that may be read, and stay as they are. -/
abbrev Rs := Nat → List Value → Nat → Prop
structure St (H0 : AHeap) (X : Nat → Prop) (Z : Rs) (H : AHeap) (F : List (Nat × AObj)) : Prop where
  kp : Kp X H0 H
  nd : (F.map (·.1)).Nodup
  get : ∀ p ∈ F, H[p.1]? = some p.2
  own : ∀ p ∈ F, H0.length ≤ p.1 ∨ X p.1
  z : ∀ b vs sz, Z b vs sz → Rd H b vs sz ∧ ∀ p ∈ F, p.1 ≠ b
theorem St.begin (H0 : AHeap) : St H0 none0 (Rd H0) H0 [] := ⟨.refl _ _, .nil, fun _ h => (by cases h), fun _ h => (by cases h), fun b vs sz h => ⟨h, fun _ h => (by cases h)⟩⟩
theorem St.begin1 {H0 : AHeap} {p : Nat} {o : AObj} (h : H0[p]? = some o) : St H0 (· = p) (fun b vs sz => Rd H0 b vs sz ∧ b ≠ p) H0 [(p, o)] :=
  ⟨.refl _ _, by simp, fun q hq => by simp at hq; subst hq; exact h, fun q hq => by simp at hq; subst hq; exact .inr rfl, fun b vs sz hz => ⟨hz.1, fun q hq => by simp at hq; subst hq; exact Ne.symm hz.2⟩⟩
theorem St.beginL {H0 : AHeap} (F : List (Nat × AObj)) (hn : (F.map (·.1)).Nodup) (h : ∀ p ∈ F, H0[p.1]? = some p.2) : St H0 (· ∈ F.map (·.1)) (fun b vs sz => Rd H0 b vs sz ∧ b ∉ F.map (·.1)) H0 F :=
  ⟨.refl _ _, hn, h, fun q hq => .inr (List.mem_map_of_mem hq), fun b vs sz hz => ⟨hz.1, fun q hq e => hz.2 (by subst e; exact List.mem_map_of_mem hq)⟩⟩
section
variable {H0 : AHeap} {X : Nat → Prop} {Z : Rs} {H H' : AHeap} {F : List (Nat × AObj)}
theorem St.getj (h : St H0 X Z H F) {j b : Nat} {o : AObj} (hj : F[j]? = some (b, o)) : H[b]? = some o := h.get _ (List.mem_of_getElem? hj)
theorem St.rd (h : St H0 X Z H F) {j b : Nat} {w : Bool} {vs : List Value} {sz : Nat} (hj : F[j]? = some (b, .cells w vs sz)) : Rd H b vs sz := .inl ⟨w, h.getj hj⟩
theorem St.live (h : St H0 X Z H F) {j b : Nat} {w : Bool} {vs : List Value} {sz : Nat} (hj : F[j]? = some (b, .cells w vs sz)) : H[b]? ≠ some .dead := by rw [h.getj hj]; simp
theorem St.zrd (h : St H0 X Z H F) {b : Nat} {vs : List Value} {sz : Nat} (hz : Z b vs sz) : Rd H b vs sz := (h.z b vs sz hz).1
theorem St.push (h : St H0 X Z H F) (o : AObj) : St H0 X Z (H ++ [o]) ((H.length, o) :: F) := by
  refine ⟨⟨by have := h.kp.len; simp; omega, fun b hb hx => ?_⟩, ?_, fun p hp => ?_, fun p hp => ?_, fun b vs sz hz => ?_⟩
  · rw [List.getElem?_append_left (Nat.lt_of_lt_of_le hb h.kp.len)]; exact h.kp.get b hb hx
  · refine List.nodup_cons.2 ⟨fun hm => ?_, h.nd⟩
    obtain ⟨q, hq, e⟩ := List.mem_map.1 hm
    have := lt_of_some (h.get q hq)
    simp only at e; omega
  · rcases List.mem_cons.1 hp with rfl | hp
    · simp
    · rw [List.getElem?_append_left (lt_of_some (h.get p hp))]; exact h.get p hp
  · rcases List.mem_cons.1 hp with rfl | hp
    · exact .inl h.kp.len
    · exact h.own p hp
  · obtain ⟨h1, h2⟩ := h.z b vs sz hz
    refine ⟨frm_rd' h1, fun p hp => ?_⟩
    rcases List.mem_cons.1 hp with rfl | hp
    · have := h1.lt; simp only [ne_eq]; omega
    · exact h2 p hp
theorem keys_set {F : List (Nat × AObj)} {j b : Nat} {o o' : AObj} (hj : F[j]? = some (b, o)) : (F.set j (b, o')).map (·.1) = F.map (·.1) := by
  apply List.ext_getElem?
  intro i
  rw [List.getElem?_map, List.getElem?_set, List.getElem?_map]
  by_cases e : j = i
  · subst e
    have := (List.getElem?_eq_some_iff.1 hj).1
    rw [if_pos rfl, if_pos this, hj]; rfl
  · rw [if_neg e]
theorem mem_set_cases {F : List (Nat × AObj)} {j : Nat} {q p : Nat × AObj} (hp : p ∈ F.set j q) : p = q ∨ ∃ i, i ≠ j ∧ F[i]? = some p := by
  obtain ⟨i, hi⟩ := List.mem_iff_getElem?.1 hp
  rw [List.getElem?_set] at hi
  by_cases e : j = i
  · rw [if_pos e] at hi
    split at hi
    · left; simpa using hi.symm
    · cases hi
  · rw [if_neg e] at hi
    exact .inr ⟨i, Ne.symm e, hi⟩
theorem nodup_of_inj {l : List Nat} (h : ∀ (i j x : Nat), l[i]? = some x → l[j]? = some x → i = j) : l.Nodup := by
  refine List.pairwise_iff_getElem.2 fun i j hi hj hij e => ?_
  have := h i j l[i] (List.getElem?_eq_getElem hi) (by rw [List.getElem?_eq_getElem hj, e])
  omega
theorem St.ne (h : St H0 X Z H F) {i j : Nat} {p q : Nat × AObj} (hi : F[i]? = some p) (hj : F[j]? = some q) (hne : i ≠ j) : p.1 ≠ q.1 := fun e => by
  have h1 : (F.map (·.1))[i]? = some p.1 := by rw [List.getElem?_map, hi]; rfl
  have h2 : (F.map (·.1))[j]? = some p.1 := by rw [List.getElem?_map, hj, e]; rfl
  exact hne (nodup_inj h.nd h1 h2)
theorem St.setAt (h : St H0 X Z H F) {j b : Nat} {o : AObj} (hj : F[j]? = some (b, o)) (o' : AObj) : St H0 X Z (H.set b o') (F.set j (b, o')) := by
  have hb := lt_of_some (h.getj hj)
  have hown := h.own _ (List.mem_of_getElem? hj)
  refine ⟨⟨by simpa using h.kp.len, fun c hc hx => ?_⟩, by rw [keys_set hj]; exact h.nd, fun p hp => ?_, fun p hp => ?_, fun c vs sz hz => ?_⟩
  · have hne : b ≠ c := fun e => by subst e; rcases hown with h1 | h1; (simp only at h1; omega); exact hx h1
    rw [List.getElem?_set, if_neg hne]; exact h.kp.get c hc hx
  · rcases mem_set_cases hp with rfl | ⟨i, hi, hp⟩
    · rw [List.getElem?_set, if_pos rfl, if_pos hb]
    · have := h.ne hp hj hi
      rw [List.getElem?_set, if_neg (Ne.symm this)]; exact h.getj hp
  · rcases mem_set_cases hp with rfl | ⟨i, hi, hp⟩
    · exact hown
    · exact h.own p (List.mem_of_getElem? hp)
  · obtain ⟨h1, h2⟩ := h.z c vs sz hz
    refine ⟨rd_set h1 (h2 _ (List.mem_of_getElem? hj)), fun p hp => ?_⟩
    rcases mem_set_cases hp with rfl | ⟨i, hi, hp⟩
    · exact h2 (b, o) (List.mem_of_getElem? hj)
    · exact h2 p (List.mem_of_getElem? hp)
theorem St.forget (h : St H0 X Z H F) (j : Nat) : St H0 X Z H (F.eraseIdx j) := by
  have hs : ∀ p, p ∈ F.eraseIdx j → p ∈ F := fun p hp => (List.eraseIdx_sublist _ _).subset hp
  exact ⟨h.kp, h.nd.sublist ((List.eraseIdx_sublist F j).map _), fun p hp => h.get p (hs p hp), fun p hp => h.own p (hs p hp), fun b vs sz hz => ⟨(h.z b vs sz hz).1, fun p hp => (h.z b vs sz hz).2 p (hs p hp)⟩⟩
/-- A block is not among some. -/
def NotIn (l : List Nat) (b : Nat) : Prop := b ∉ l
theorem St.turn (h : St H0 X Z H F) {Y : Nat → Prop} (k : Kp Y H H') (F' : List (Nat × AObj)) (hnd : (F'.map (·.1)).Nodup) (hF' : ∀ p ∈ F', (p ∈ F ∧ ¬ Y p.1) ∨ (H'[p.1]? = some p.2 ∧ (H.length ≤ p.1 ∨ p.1 ∈ F.map (·.1)))) (hY : ∀ b, Y b → b ∈ F.map (·.1)) : St H0 X Z H' F' := by
  have hkey : ∀ b, b ∈ F.map (·.1) → H0.length ≤ b ∨ X b := fun b hb => by
    obtain ⟨q, hq, rfl⟩ := List.mem_map.1 hb
    exact h.own q hq
  refine ⟨⟨Nat.le_trans h.kp.len k.len, fun b hb hx => ?_⟩, hnd, fun p hp => ?_, fun p hp => ?_, fun b vs sz hz => ?_⟩
  · rw [k.get b (Nat.lt_of_lt_of_le hb h.kp.len) fun hy => ?_, h.kp.get b hb hx]
    rcases hkey b (hY b hy) with h1 | h1
    · omega
    · exact hx h1
  · rcases hF' p hp with ⟨h1, h2⟩ | ⟨h1, _⟩
    · rw [k.get _ (lt_of_some (h.get p h1)) h2]; exact h.get p h1
    · exact h1
  · rcases hF' p hp with ⟨h1, h2⟩ | ⟨_, h1 | h1⟩
    · exact h.own p h1
    · exact .inl (Nat.le_trans h.kp.len h1)
    · exact hkey _ h1
  · obtain ⟨h1, h2⟩ := h.z b vs sz hz
    refine ⟨k.rd h1 fun hy => ?_, fun p hp => ?_⟩
    · obtain ⟨q, hq, e⟩ := List.mem_map.1 (hY b hy)
      exact h2 q hq e
    · rcases hF' p hp with ⟨h3, _⟩ | ⟨_, h3 | h3⟩
      · exact h2 p h3
      · have := h1.lt; omega
      · obtain ⟨q, hq, e⟩ := List.mem_map.1 h3
        rw [← e]; exact h2 q hq
theorem St.call0 (h : St H0 X Z H F) (k : K0 H H') : St H0 X Z H' F := h.turn k F h.nd (fun p hp => .inl ⟨hp, fun h => h⟩) (fun _ h => h.elim)
/-- .. and a new block. -/
theorem St.callN (h : St H0 X Z H F) (k : K0 H H') {b : Nat} {o : AObj} (hb : H.length ≤ b) (ho : H'[b]? = some o) : St H0 X Z H' ((b, o) :: F) := by
  refine h.turn k _ (List.nodup_cons.2 ⟨fun hm => ?_, h.nd⟩) (fun p hp => ?_) (fun _ h => h.elim)
  · obtain ⟨q, hq, e⟩ := List.mem_map.1 hm
    have := lt_of_some (h.get q hq)
    simp only at e; omega
  · rcases List.mem_cons.1 hp with rfl | hp
    · exact .inr ⟨ho, .inl hb⟩
    · exact .inl ⟨hp, fun h => h⟩
theorem St.freeze (h : St H0 X Z H F) {j b : Nat} {w : Bool} {vs : List Value} {sz : Nat} (hj : F[j]? = some (b, .cells w vs sz)) : St H0 X (fun b' vs' sz' => Z b' vs' sz' ∨ (b' = b ∧ vs' = vs ∧ sz' = sz)) H (F.eraseIdx j) := by
  have h' := h.forget j
  refine ⟨h'.kp, h'.nd, h'.get, h'.own, fun b' vs' sz' hz => ?_⟩
  rcases hz with hz | ⟨rfl, rfl, rfl⟩
  · exact h'.z _ _ _ hz
  · refine ⟨h.rd hj, fun p hp e => ?_⟩
    obtain ⟨i, hi⟩ := List.mem_iff_getElem?.1 hp
    rw [List.getElem?_eraseIdx] at hi
    split at hi
    · exact h.ne hi hj (by omega) e
    · exact h.ne hi hj (by omega) e
theorem St.zmono (h : St H0 X Z H F) {Z' : Rs} (hz : ∀ b vs sz, Z' b vs sz → Z b vs sz) : St H0 X Z' H F := ⟨h.kp, h.nd, h.get, h.own, fun b vs sz h' => h.z _ _ _ (hz _ _ _ h')⟩
/-- More that may be read: it is new. -/
theorem St.zadd (h : St H0 X Z H F) {Z' : Rs} (hz : ∀ b vs sz, Z' b vs sz → Rd H b vs sz ∧ ∀ p ∈ F, p.1 ≠ b) : St H0 X (fun b vs sz => Z b vs sz ∨ Z' b vs sz) H F := ⟨h.kp, h.nd, h.get, h.own, fun b vs sz h' => h'.elim (h.z _ _ _) (hz _ _ _)⟩
/-- append: the old block is dead, the new one stands in its place. -/
theorem St.grow (h : St H0 X Z H F) {j b : Nat} {o : AObj} (hj : F[j]? = some (b, o)) (o' : AObj) : St H0 X Z (H.set b .dead ++ [o']) (F.set j (H.length, o')) := by
  have h1 := (h.setAt hj .dead).push o'
  rw [List.length_set] at h1
  have hjl := (List.getElem?_eq_some_iff.1 hj).1
  have hmem : ∀ p, p ∈ F.set j (H.length, o') → p = (H.length, o') ∨ p ∈ F.set j (b, .dead) := fun p hp => by
    rcases mem_set_cases hp with rfl | ⟨i, hi, hp⟩
    · exact .inl rfl
    · right
      refine List.mem_iff_getElem?.2 ⟨i, ?_⟩
      rw [List.getElem?_set, if_neg (Ne.symm hi)]; exact hp
  refine ⟨h1.kp, ?_, fun p hp => ?_, fun p hp => ?_, fun c vs sz hz => ⟨(h1.z c vs sz hz).1, fun p hp => ?_⟩⟩
  · have hb : ∀ m, m ≠ j → ((F.set j (H.length, o')).map (·.1))[m]? = (F.map (·.1))[m]? := fun m hm => by
      rw [List.getElem?_map, List.getElem?_set, if_neg (Ne.symm hm), List.getElem?_map]
    have hjv : ((F.set j (H.length, o')).map (·.1))[j]? = some H.length := by
      rw [List.getElem?_map, List.getElem?_set, if_pos rfl, if_pos hjl]; rfl
    have hlt : ∀ m x, (F.map (·.1))[m]? = some x → x < H.length := fun m x hx => by
      rw [List.getElem?_map] at hx
      obtain ⟨q, hq, rfl⟩ := Option.map_eq_some_iff.1 hx
      exact lt_of_some (h.getj (b := q.1) (o := q.2) hq)
    refine nodup_of_inj fun i k x hi hk => ?_
    by_cases ei : i = j
    · subst ei
      rw [hjv] at hi; cases hi
      by_cases ek : k = i
      · exact ek.symm
      · rw [hb k ek] at hk
        have := hlt k _ hk; omega
    · by_cases ek : k = j
      · subst ek
        rw [hjv] at hk; cases hk
        rw [hb i ei] at hi
        have := hlt i _ hi; omega
      · rw [hb i ei] at hi
        rw [hb k ek] at hk
        exact nodup_inj h.nd hi hk
  · rcases hmem p hp with rfl | hp
    · exact h1.get _ (List.mem_cons_self)
    · exact h1.get _ (List.mem_cons_of_mem _ hp)
  · rcases hmem p hp with rfl | hp
    · exact h1.own _ (List.mem_cons_self)
    · exact h1.own _ (List.mem_cons_of_mem _ hp)
  · rcases hmem p hp with rfl | hp
    · exact (h1.z c vs sz hz).2 _ (List.mem_cons_self)
    · exact (h1.z c vs sz hz).2 _ (List.mem_cons_of_mem _ hp)
/-! ### Slices -/
variable {α : Type} {f : α → Value}
def SlZ {α : Type} (f : α → Value) (Z : Rs) (v : Value) (l : List α) : Prop :=
  (v = .slice none 0 0 ∧ l = []) ∨ ∃ b o c vs, v = .slice (some ⟨b, o, none⟩) l.length c ∧ Z b vs 1 ∧ o + l.length ≤ vs.length ∧ l.length ≤ c ∧ ∀ i (h : i < l.length), vs[o + i]? = some (f l[i])
theorem SlZ.mono {Z Z' : Rs} {v : Value} {l : List α} (h : SlZ f Z v l) (hz : ∀ b vs sz, Z b vs sz → Z' b vs sz) : SlZ f Z' v l := by
  rcases h with h | ⟨b, o, c, vs, h1, h2, h3⟩
  · exact .inl h
  · exact .inr ⟨b, o, c, vs, h1, hz _ _ _ h2, h3⟩
theorem St.sl (h : St H0 X Z H F) {v : Value} {l : List α} (hs : SlZ f Z v l) : Sl f H v l := SlZ.mono (Z' := Rd H) hs fun b vs sz hz => h.zrd hz
theorem Sl.kp {X : Nat → Prop} {v : Value} {l : List α} (h : Sl f H v l) (k : Kp X H H') (hx : ∀ b, ¬ X b) : Sl f H' v l := SlZ.mono (Z := Rd H) (Z' := Rd H') h fun b vs sz hz => k.rd hz (hx b)
theorem Sl.k0 {v : Value} {l : List α} (h : Sl f H v l) (k : K0 H H') : Sl f H' v l := h.kp k fun _ h => h
theorem Sl.out {x : Nat} {v : Value} {l : List α} (h : Sl f H v l) (hx : ∀ b o c n, v = .slice (some ⟨b, o, none⟩) n c → b ≠ x) : SlZ f (fun b vs sz => Rd H b vs sz ∧ b ≠ x) v l := by
  rcases h with h | ⟨b, o, c, vs, h1, h2, h3⟩
  · exact .inl h
  · exact .inr ⟨b, o, c, vs, h1, ⟨h2, hx _ _ _ _ h1⟩, h3⟩
theorem St.slj (h : St H0 X Z H F) {j b : Nat} {w : Bool} {l : List α} (hj : F[j]? = some (b, .cells w (l.map f) 1)) {n c : Nat} (hn : l.length = n) (hc : n ≤ c) : Sl f H (.slice (some ⟨b, 0, none⟩) n c) l := sl_full (h.rd hj) hn hc
/-- A slice that was frozen. -/
theorem slz_full {Z : Rs} {b n c : Nat} {l : List α} (hz : Z b (l.map f) 1) (hn : l.length = n) (hc : n ≤ c) : SlZ f Z (.slice (some ⟨b, 0, none⟩) n c) l := by
  subst hn
  exact .inr ⟨b, 0, c, l.map f, rfl, hz, by simp, hc, fun i h => by simp [h]⟩
end
/-- The place of a list's element; beyond its end there is nothing to say. -/
abbrev nth {α : Type} [Inhabited α] (l : List α) (i : Nat) : α := l.getD i default
theorem nth_eq {α : Type} [Inhabited α] {l : List α} {i : Nat} (h : i < l.length) : nth l i = l[i] := by simp [nth, h]
def sb : Value → Nat
  | .slice (some a) _ _ => a.block
  | _ => 0
def so : Value → Nat
  | .slice (some a) _ _ => a.off
  | _ => 0
section
variable {P : Program} {T : Nat → Value} {H : AHeap} {dst : Option Tmp} {ty : TypeId} {pos : String} {af : Array Edge} {g : Option (Nat × Bool)} {α : Type} [Inhabited α] {f : α → Value} {v : Value} {l : List α}
omit [Inhabited α] in
theorem q_index_sl {t el : TypeId} {x y : Operand} {k : IntKind} {i : Nat} (hu : P.underlying t = some (.slice el)) (hs : ∀ w, (sizeOf el).run P w = .ok 1 w) (h : Sl f H v l) (hx : ev T x = v) (hy : ev T y = .int k (i : Nat)) (hi : i < l.length) :
    OpQ P ⟨dst, .indexAddr t x y, ty, pos, af, g⟩ T H (.pointer (some ⟨sb v, so v + i, none⟩)) [] := by
  obtain ⟨b, o, c, vs, rfl, hR, _⟩ := h.get hi
  exact q_index1 hu hs hx hy hi hR
theorem q_load_sl {t : TypeId} {x : Operand} {i : Nat} (hu : ∀ w, (isAgg t).run P w = .ok false w) (h : Sl f H v l) (hx : ev T x = .pointer (some ⟨sb v, so v + i, none⟩)) (hi : i < l.length) :
    OpQ P ⟨dst, .load t x, ty, pos, af, g⟩ T H (f (nth l i)) [] := by
  obtain ⟨b, o, c, vs, rfl, hR, _, _, hg⟩ := h.get hi
  exact q_load hu hx hR (by rw [nth_eq hi]; exact hg i hi)
theorem get_nth {w : Nat} {k : Nat} (h : k < l.length) : (l.map f)[k]? = some (f (nth l k)) := by rw [nth_eq h]; simp [h]
end
end Go.Proofs.YtbjlabokijchpaaA
