/-
  append in place, clear, a slice against nil; less of a block.
-/
import Derived.Test.YtbjlabokijchpaaB6
namespace Go.Proofs.YtbjlabokijchpaaA
set_option linter.unusedVariables false
open Go Go.RowKit Go.Shelf
section
variable {F : Fence} {nn : Nat} {P : Program} {N0 : AHeap} {s : ASt} {dst : Option Tmp} {ty : TypeId} {pos : String} {af : Array Edge} {g : Option (Nat × Bool)}
theorem SRel.stored {ρ : Ren} {a : Act} {w w' : World} {b : Nat} {ob : AObj} (hs : SRel N0 ρ s a w) (hm : s.H[b]? ≠ some .mark) (hh : HRel ρ (s.H.set b ob) w') : SRel N0 ρ { s with H := s.H.set b ob } a w' :=
  ⟨hh, hs.tmps, DRel.keep (b := b) (fun c hc => by rw [List.getElem?_set, if_neg (Ne.symm hc)]) hm _ _ hs.defers, by have := hs.len; simpa using this, hs.entry⟩
/-- append where there is room: in place. -/
theorem o_appendIn {K : ASt → Prop} (hF : Wd F) {x y : Operand} {sT yT el : TypeId} {i : TypeInfo} {b o n c m sz : Nat} {vs xs : List Value} (hu : P.underlying sT = some (.slice el)) (hi : P.info? el = some i) (hsz : i.size = sz)
    (hx : ev s.T x = .slice (some ⟨b, o, none⟩) n c) (hc0 : 0 < c) (hy0 : ∀ ρ w v', HRel ρ s.H w → VRel ρ (ev s.T y) v' → ∃ ns, Src P sz yT v' m ns w ∧ LRel ρ xs ns) (hH : s.H[b]? = some (.cells true vs sz)) (hroom : n + m ≤ c) (hfit : o + (n + m) * sz ≤ vs.length) (hxs : xs.length = m * sz)
    (hcx : cOk s.H x) (hcy : cOk s.H y) (hd : dOk s.nt dst)
    (hk : K (ASt.put { s with H := s.H.set b (.cells true (splice vs (o + n * sz) xs) sz) } dst (.slice (some ⟨b, o, none⟩) (n + m) c))) :
    OpOk F nn P N0 ⟨dst, .call { callee := .builtin .append, args := #[x, y], argTypes := #[sT, yT] }, ty, pos, af, g⟩ K s := by
  intro ρ a w hs'
  have hh := hs'.heap
  have h1 := ev_rel hh hs'.tmps hcx
  have h2 := ev_rel hh hs'.tmps hcy
  rw [hx] at h1
  subst hsz
  obtain ⟨l, o', c', hl, e1, k1, k2, k3, k4⟩ | ⟨_, e, _⟩ := vrel_slice hh h1 (by rw [hH]; simp)
  case inr => omega
  obtain ⟨ns, hS, hN⟩ := hy0 ρ w _ hh h2
  obtain ⟨o1, q1, q2, q3⟩ := hh.rel b l hl
  rw [hH] at q1; cases q1
  obtain ⟨q4, cs, E, fr, q5, q6, q7, q8, q9⟩ := q3
  have hNl : ns.length = m * i.size := hS.newsLen
  have ho' : o' = l.base + o := by
    rcases k3 with h | h
    · exact h
    · omega
  subst ho'
  have hmul : (n + m) * i.size = n * i.size + m * i.size := Nat.add_mul _ _ _
  have hr : (Builtin.append_ #[sT, yT] ty #[a.eval x, a.eval y]).run P w = .ok (.slice (some ⟨l.blk, l.base + o, none⟩) (n + m) c') (w.setCells l.blk (l.base + o + n * i.size) ns) := by
    rw [e1]
    refine run_append_room_src w sT yT ty el i hu hi l.blk (l.base + o) n c' (a.eval y) m ns hS (by omega) (fun j hj => ?_) (fun j hj => ?_)
    · rw [cell_at q5 (by omega)]; rfl
    · exact frozen_world q5 (q9 rfl) (by omega) (by omega)
  refine ⟨fun f _ => hF.fn f, ?_⟩
  rw [Oper.semAt_eq _ _ _ (by simp)]
  have hexec : (execOp a.eval ⟨dst, .call { callee := .builtin .append, args := #[x, y], argTypes := #[sT, yT] }, ty, pos, af, g⟩).run P w = _ := run_builtin (us := #[a.eval x, a.eval y]) (by simp) (run_v hr)
  rw [hexec]
  obtain ⟨r1, r2⟩ := store_rel hh hl hH hN (o := o + n * i.size) (by rw [hxs]; omega) N0.length
  rw [← Nat.add_assoc] at r1 r2
  refine ⟨_, ρ, hk, (hs'.stored (by rw [hH]; simp) r1).put hd (.slice hl (by omega) k2 (.inl rfl) k4), ?_⟩
  rw [ASt.put_H]; exact r2
theorem zeroCells_one {z : Value} (hz : z.cells = #[z]) (n : Nat) : (Builtin.zeroCells z.cells n).toList = List.replicate n z := by
  unfold Builtin.zeroCells
  rw [hz]
  simp only [List.size_toArray, List.length_cons, List.length_nil, Nat.zero_add, Nat.mul_one]
  apply List.ext_getElem
  · simp
  · intro j h1 h2
    simp [Nat.mod_one]
/-- clear: of a slice of one-celled things. -/
theorem o_clear {K : ASt → Prop} (hF : Wd F) {x : Operand} {sT el : TypeId} {b o n c : Nat} {vs : List Value} {z : Value} (hu : P.underlying sT = some (.slice el)) (hz : ∀ w, (zeroValue el).run P w = .ok z w) (hz1 : z.cells = #[z]) (hzs : Scalar z = true)
    (hx : ev s.T x = .slice (some ⟨b, o, none⟩) n c) (hc : n ≤ c) (hH : s.H[b]? = some (.cells true vs 1)) (hfit : o + n ≤ vs.length) (hcx : cOk s.H x)
    (hk : K { s with H := s.H.set b (.cells true (splice vs o (List.replicate n z)) 1) }) :
    OpOk F nn P N0 ⟨none, .call { callee := .builtin .clear, args := #[x], argTypes := #[sT] }, ty, pos, af, g⟩ K s := by
  intro ρ a w hs'
  have hh := hs'.heap
  have h1 := ev_rel hh hs'.tmps hcx
  rw [hx] at h1
  refine ⟨fun f _ => hF.fn f, ?_⟩
  rw [Oper.semAt_eq _ _ _ (by simp)]
  have hspl : splice vs o (List.replicate 0 z) = vs := by simp [splice]
  have fin0 : n = 0 → ∃ s' ρ', K s' ∧ SRel N0 ρ' s' a w ∧ Fr N0.length ρ s.H w ρ' s'.H w := fun e => by
    subst e
    rw [hspl] at hk
    have e2 : s.H.set b (.cells true vs 1) = s.H := by
      apply List.ext_getElem?
      intro j
      rw [List.getElem?_set]
      by_cases e : b = j
      · subst e; rw [if_pos rfl, if_pos (lt_of_some hH), hH]
      · rw [if_neg e]
    rw [e2] at hk
    exact ⟨_, ρ, hk, hs', .refl _ _ _ _⟩
  have hexec : ∀ (v : Value) (w' : World), (Builtin.clear_ #[sT] ty #[a.eval x]).run P w = .ok v w' → (execOp a.eval ⟨none, .call { callee := .builtin .clear, args := #[x], argTypes := #[sT] }, ty, pos, af, g⟩).run P w = .ok (.value v) w' :=
    fun v w' h => run_builtin (us := #[a.eval x]) (by simp) (run_v h)
  by_cases hn : n = 0
  · have hv : ∃ ad c', a.eval x = .slice ad 0 c' := by
      rcases vrel_slice hh h1 (by rw [hH]; simp) with ⟨l, o', c', _, e, _⟩ | ⟨_, _, _, ad, e⟩
      · exact ⟨_, _, by rw [e, hn]⟩
      · exact ⟨_, _, e⟩
    obtain ⟨ad, c', e⟩ := hv
    have hr : (Builtin.clear_ #[sT] ty #[a.eval x]).run P w = .ok (.tuple #[]) w := by
      rw [e]
      cases ad <;> simp [Builtin.clear_, run_underlying hu]
    rw [hexec _ _ hr]
    exact fin0 hn
  · obtain ⟨l, o', c', hl, e1, k1, k2, k3, k4⟩ | ⟨e, _⟩ := vrel_slice hh h1 (by rw [hH]; simp)
    case inr => omega
    obtain ⟨o1, q1, q2, q3⟩ := hh.rel b l hl
    rw [hH] at q1; cases q1
    obtain ⟨q4, cs, E, fr, q5, q6, q7, q8, q9⟩ := q3
    have ho' : o' = l.base + o := by
      rcases k3 with h | h
      · exact h
      · omega
    subst ho'
    have hone : ∀ u ∈ List.replicate n z, u.oneCell' = true := fun u hu => by
      rw [List.eq_of_mem_replicate hu]; exact (lc_scalar (H := []) hzs).2
    have hst := run_storeCells_cells (P := P) l.blk (l.base + o) (List.replicate n z) 0 w (fun j hj => by rw [cell_at q5 (by simp at hj; omega)]; rfl) (fun j hj => frozen_world q5 (q9 rfl) (by omega) (by simp at hj; omega)) hone
    simp only [Nat.add_zero] at hst
    have hr : (Builtin.clear_ #[sT] ty #[a.eval x]).run P w = .ok (.tuple #[]) (w.setCells l.blk (l.base + o) (List.replicate n z)) := by
      rw [e1]
      obtain ⟨m, rfl⟩ : ∃ m, n = m + 1 := ⟨n - 1, by omega⟩
      simp only [Builtin.clear_, List.getElem?_toArray, List.getElem?_cons_zero, Sem.run_bind, run_underlying hu, Result.andThen_ok]
      simp only [hz w, Result.andThen_ok, zeroCells_one hz1, hst, Sem.run_pure]
    rw [hexec _ _ hr]
    obtain ⟨r1, r2⟩ := store_rel hh hl hH (us := List.replicate n z) (us' := List.replicate n z) (LRel.replicate ρ n (.scalar hzs ρ)) (o := o) (by simp; omega) N0.length
    exact ⟨_, ρ, hk, hs'.stored (by rw [hH]; simp) r1, r2⟩
theorem run_slnil {sT el : TypeId} (hu : P.underlying sT = some (.slice el)) {x : Operand} (a : Act) {u : TypeId} {ad : Option Addr} {n c : Nat} (hx : a.eval x = .slice ad n c) (w : World) :
    (execOp a.eval ⟨dst, .binOp .eql sT x (.const (.slice none 0 0)) u, ty, pos, af, g⟩).run P w = .ok (.value (.bool ad.isNone)) w := by
  refine run_v ?_
  have h1 : eqGuard .eql sT x (.const (.slice none 0 0)) (a.eval x) (.slice none 0 0) = Sem.pure () := by rw [hx]; rfl
  have h2 : binOp .eql sT (a.eval x) (.slice none 0 0) = (do pure (Value.bool (← Op.equal sT (.slice ad n c) (.slice none 0 0)))) := by rw [hx]; rfl
  show (Sem.bind (eqGuard .eql sT x (.const (.slice none 0 0)) (a.eval x) (.slice none 0 0)) fun _ => binOp .eql sT (a.eval x) (.slice none 0 0)).run P w = _
  rw [h1, h2]
  show (Sem.bind (Op.equal sT (.slice ad n c) (.slice none 0 0)) fun r => pure (Value.bool r)).run P w = _
  have h3 : (Op.equal sT (.slice ad n c) (.slice none 0 0)).run P w = .ok ad.isNone w := by
    show (Op.equalIn (9999 + 1) sT (.slice ad n c) (.slice none 0 0)).run P w = _
    unfold Op.equalIn
    rw [Sem.run_bind, run_und hu, Result.andThen_ok]
    cases ad <;> rfl
  have h4 := Sem.run_bind' P (Op.equal sT (.slice ad n c) (.slice none 0 0)) (fun r => (pure (Value.bool r) : Sem Value)) w
  rw [h3] at h4
  exact h4
/-- A slice against nil: if it is nil, it has no elements. -/
theorem o_isnil {K : ASt → Prop} (hF : Wd F) {x : Operand} {sT el u : TypeId} {b o n c : Nat} (hu : P.underlying sT = some (.slice el)) (hx : ev s.T x = .slice (some ⟨b, o, none⟩) n c) (hl : s.H[b]? ≠ some .dead) (hcx : cOk s.H x) (hd : dOk s.nt dst)
    (hk : ∀ t : Bool, (t = true → n = 0) → K (ASt.put s dst (.bool t))) :
    OpOk F nn P N0 ⟨dst, .binOp .eql sT x (.const (.slice none 0 0)) u, ty, pos, af, g⟩ K s := by
  intro ρ a w hs'
  have hh := hs'.heap
  have h1 := ev_rel hh hs'.tmps hcx
  rw [hx] at h1
  refine ⟨fun f _ => hF.fn f, ?_⟩
  rw [Oper.semAt_eq _ _ _ (by simp)]
  have hv : ∃ t : Bool, (t = true → n = 0) ∧ (execOp a.eval ⟨dst, .binOp .eql sT x (.const (.slice none 0 0)) u, ty, pos, af, g⟩).run P w = .ok (.value (.bool t)) w := by
    rcases vrel_slice hh h1 hl with ⟨l, o', c', _, e, _⟩ | ⟨e0, _, _, ad, e⟩
    · exact ⟨false, by simp, run_slnil hu a e w⟩
    · cases ad with
      | none => exact ⟨true, fun _ => e0, run_slnil hu a e w⟩
      | some ad => exact ⟨false, by simp, run_slnil hu a e w⟩
  obtain ⟨t, ht, hr⟩ := hv
  rw [hr]
  refine ⟨_, ρ, hk t ht, hs'.put hd (.bool t), ?_⟩
  rw [ASt.put_H]; exact .refl _ _ _ _
end
section
variable {Fc : Fence} {n : Nat} {P : Program} {N0 : AHeap} {ops : Array Oper} {rest : List Oper} {K : ASt → Prop} {nt : Nat} {T : Nat → Value} {D : List Nat} {d : Tmp} {tab : List Nat} {i : Nat} {ty : TypeId} {pos : String} {af : Array Edge} {g : Option (Nat × Bool)}
variable {H0 : AHeap} {X : Nat → Prop} {Z : Rs} {H : AHeap} {F F' : List (Nat × AObj)}
theorem x_appendIn (fl : List Nat) (hF : Wd Fc) (hS : St H0 X Z H F) (hfl : floatOk ops tab i fl = true) {x y : Operand} {sT yT el : TypeId} {ti : TypeInfo} {vy : Value} {j b oo nn c m sz : Nat} {vs xs vs' : List Value} (n' : Nat) (hn' : nn + m = n') (hg : GYes ops ⟨some d, .call { callee := .builtin .append, args := #[x, y], argTypes := #[sT, yT] }, ty, pos, af, g⟩ T) (hu : P.underlying sT = some (.slice el)) (hi : P.info? el = some ti) (hsz : ti.size = sz)
    (hx : ev T x = .slice (some ⟨b, oo, none⟩) nn c) (hyv : ev T y = vy) (hj : F[j]? = some (b, .cells true vs sz)) (hc0 : 0 < c) (hy0 : ∀ ρ w v', HRel ρ H w → VRel ρ vy v' → ∃ ns, Src P sz yT v' m ns w ∧ LRel ρ xs ns) (hroom : n' ≤ c) (hfit : oo + n' * sz ≤ vs.length) (hxs : xs.length = m * sz) (hcx : cOk H x) (hcy : cOk H y) (hd : d < nt) (hfx : offF ops fl x = true) (hfy : offF ops fl y = true)
    (hvs : splice vs (oo + nn * sz) xs = vs') (hF' : F.set j (b, .cells true vs' sz) = F') (hk : ∀ H', St H0 X Z H' F' → PendL P ops ⟨nt, upd T d (.slice (some ⟨b, oo, none⟩) n' c), D, H'⟩ fl ∧ dList Fc n P N0 ops tab (i + 1) rest K ⟨nt, upd T d (.slice (some ⟨b, oo, none⟩) n' c), D, H'⟩) :
    dList Fc n P N0 ops tab i (⟨some d, .call { callee := .builtin .append, args := #[x, y], argTypes := #[sT, yT] }, ty, pos, af, g⟩ :: rest) K ⟨nt, T, D, H⟩ := by
  subst hn' hvs hF'
  have h1 := hk _ (hS.setAt hj (.cells true (splice vs (oo + nn * sz) xs) sz))
  refine df fl (v := .slice (some ⟨b, oo, none⟩) (nn + m) c) (H' := H.set b (AObj.cells true (splice vs (oo + nn * sz) xs) sz)) hfl hg (fun T' hT K' hk' => ?_) h1.1 h1.2
  exact o_appendIn (s := ⟨nt, T', D, H⟩) hF hu hi hsz ((offF_ev hfx hT).trans hx) hc0 (fun ρ w v' hh hv => hy0 ρ w v' hh (by
    have e : ev (⟨nt, T', D, H⟩ : ASt).T y = vy := (offF_ev hfy hT).trans hyv
    rwa [e] at hv)) (hS.getj hj) hroom hfit hxs hcx hcy hd hk'
theorem x_clear (fl : List Nat) (hF : Wd Fc) (hS : St H0 X Z H F) (hfl : floatOk ops tab i fl = true) {x : Operand} {sT el : TypeId} {j b oo nn c : Nat} {vs vs' : List Value} {z : Value} (hg : GYes ops ⟨none, .call { callee := .builtin .clear, args := #[x], argTypes := #[sT] }, ty, pos, af, g⟩ T) (hu : P.underlying sT = some (.slice el)) (hz : ∀ w, (zeroValue el).run P w = .ok z w) (hz1 : z.cells = #[z]) (hzs : Scalar z = true)
    (hx : ev T x = .slice (some ⟨b, oo, none⟩) nn c) (hc : nn ≤ c) (hj : F[j]? = some (b, .cells true vs 1)) (hfit : oo + nn ≤ vs.length) (hcx : cOk H x) (hfx : offF ops fl x = true) (hvs : splice vs oo (List.replicate nn z) = vs') (hF' : F.set j (b, .cells true vs' 1) = F')
    (hk : ∀ H', St H0 X Z H' F' → PendL P ops ⟨nt, T, D, H'⟩ fl ∧ dList Fc n P N0 ops tab (i + 1) rest K ⟨nt, T, D, H'⟩) : dList Fc n P N0 ops tab i (⟨none, .call { callee := .builtin .clear, args := #[x], argTypes := #[sT] }, ty, pos, af, g⟩ :: rest) K ⟨nt, T, D, H⟩ := by
  subst hvs hF'
  have h1 := hk _ (hS.setAt hj (.cells true (splice vs oo (List.replicate nn z)) 1))
  refine df fl (v := undef) (H' := H.set b (AObj.cells true (splice vs oo (List.replicate nn z)) 1)) hfl hg (fun T' hT K' hk' => ?_) h1.1 h1.2
  exact o_clear (s := ⟨nt, T', D, H⟩) hF hu hz hz1 hzs ((offF_ev hfx hT).trans hx) hc (hS.getj hj) hfit hcx hk'
theorem x_isnil (fl : List Nat) (hF : Wd Fc) (hfl : floatOk ops tab i fl = true) {x : Operand} {sT el u : TypeId} {b oo nn c : Nat} (hg : GYes ops ⟨some d, .binOp .eql sT x (.const (.slice none 0 0)) u, ty, pos, af, g⟩ T) (hu : P.underlying sT = some (.slice el)) (hx : ev T x = .slice (some ⟨b, oo, none⟩) nn c) (hl : H[b]? ≠ some .dead) (hcx : cOk H x) (hd : d < nt) (hfx : offF ops fl x = true)
    (hk : ∀ t : Bool, (t = true → nn = 0) → PendL P ops ⟨nt, upd T d (.bool t), D, H⟩ fl ∧ dList Fc n P N0 ops tab (i + 1) rest K ⟨nt, upd T d (.bool t), D, H⟩) :
    dList Fc n P N0 ops tab i (⟨some d, .binOp .eql sT x (.const (.slice none 0 0)) u, ty, pos, af, g⟩ :: rest) K ⟨nt, T, D, H⟩ := by
  refine dfR fl (fun v H' => H' = H ∧ ∃ t : Bool, v = .bool t ∧ (t = true → nn = 0)) hfl hg (fun T' hT K' hk' => ?_) (fun v H' ⟨e, t, hv, ht⟩ => by subst e hv; exact hk t ht)
  exact o_isnil (s := ⟨nt, T', D, H⟩) hF hu ((offF_ev hfx hT).trans hx) hl hcx hd fun t ht => hk' _ H ⟨rfl, t, rfl, ht⟩
/-- Less is said of a block: its first cells. -/
theorem awp_shrink {Q : AEx → ASt → Prop} {c : Code} (hS : St H0 X Z H F) {j b sz : Nat} {vs vs2 : List Value} (hj : F[j]? = some (b, .cells true vs sz)) (m : Nat) (hm : vs.take m = vs2) (hk : ∀ H', St H0 X Z H' (F.set j (b, .cells true vs2 sz)) → awp Fc n P N0 c Q ⟨nt, T, D, H'⟩) : awp Fc n P N0 c Q ⟨nt, T, D, H⟩ := by
  subst hm
  refine awp_wk (fun ρ a w hs => ?_) (hk _ (hS.setAt hj (.cells true (vs.take m) sz)))
  have hb : H[b]? = some (.cells true vs sz) := hS.getj hj
  have hbl := lt_of_some hb
  have hwr : ∀ c, wr (H.set b (.cells true (vs.take m) sz)) c → wr H c := fun c ⟨o2, h1, h2⟩ => by
    by_cases e1 : b = c
    · subst e1; exact ⟨_, hb, rfl⟩
    · rw [List.getElem?_set, if_neg e1] at h1; exact ⟨o2, h1, h2⟩
  have hh : HRel ρ (H.set b (.cells true (vs.take m) sz)) w := by
    refine ⟨fun c hc => hs.heap.bound c (by simpa using hc), fun c l hc => ?_, fun c d m m' hcd hc hd hw => hs.heap.inj c d m m' hcd hc hd (hwr c hw), fun g vs sz hg' => ?_, fun c hc => ?_⟩
    · obtain ⟨o, r1, r2, r3⟩ := hs.heap.rel c l hc
      change H[c]? = some o at r1
      by_cases e1 : b = c
      · subst e1
        rw [hb] at r1; cases r1
        obtain ⟨k1, cs, E, fr, k2, k3, k4, k5, k6⟩ := r3
        refine ⟨.cells true (vs.take m) sz, by rw [List.getElem?_set, if_pos rfl, if_pos hbl], r2, k1, cs, E, fr, k2, by simp; omega, k4, fun i hi => ?_, k6⟩
        simp only [List.length_take] at hi
        have := k5 i (by omega)
        rw [List.getD_eq_getElem?_getD, List.getElem?_take, if_pos (by omega), ← List.getD_eq_getElem?_getD]; exact this
      · exact ⟨o, by rw [List.getElem?_set, if_neg e1]; exact r1, r2, r3⟩
    · by_cases e3 : b = g
      · subst e3
        rw [List.getElem?_set, if_pos rfl, if_pos hbl] at hg'; cases hg'
      · rw [List.getElem?_set, if_neg e3] at hg'
        exact hs.heap.glob g vs sz hg'
    · have h1 := hs.heap.isdead c hc
      change H[c]? = some .dead at h1
      have hne : b ≠ c := fun e => by subst e; rw [hb] at h1; cases h1
      rw [List.getElem?_set, if_neg hne]; exact h1
  refine ⟨ρ, ⟨hh, hs.tmps, ?_, by have := hs.len; simpa using this, hs.entry⟩, ⟨rfl, rfl, rfl, Nat.le_refl _, fun _ _ _ => rfl, fun _ _ => .inl rfl, fun c l hc hw => .inl ⟨c, l, hc, rfl, hwr c hw⟩⟩⟩
  refine DRel.frm _ _ (fun d _ l h1 h2 => ⟨h1, ?_⟩) hs.defers
  change H[d]? = some .mark at h2
  have hne : b ≠ d := fun e => by subst e; rw [hb] at h2; cases h2
  rw [List.getElem?_set, if_neg hne]; exact h2
end
/-! ### Slices of slices -/
section
variable {α : Type} {f : α → Value}
def Sl2Z (f : α → Value) (Z : Rs) (v : Value) (ll : List (List α)) : Prop :=
  (v = .slice none 0 0 ∧ ll = []) ∨ ∃ b o c vs, v = .slice (some ⟨b, o, none⟩) ll.length c ∧ Z b vs 1 ∧ o + ll.length ≤ vs.length ∧ ll.length ≤ c ∧ ∀ i (h : i < ll.length), ∃ u, vs[o + i]? = some u ∧ SlZ f Z u ll[i]
theorem Sl2Z.mono {Z Z' : Rs} {v : Value} {ll : List (List α)} (h : Sl2Z f Z v ll) (hz : ∀ b vs sz, Z b vs sz → Z' b vs sz) : Sl2Z f Z' v ll := by
  rcases h with h | ⟨b, o, c, vs, h1, h2, h3, h4, h5⟩
  · exact .inl h
  · refine .inr ⟨b, o, c, vs, h1, hz _ _ _ h2, h3, h4, fun i hi => ?_⟩
    obtain ⟨u, h6, h7⟩ := h5 i hi
    exact ⟨u, h6, h7.mono hz⟩
/-- The value of an element. -/
theorem Sl2Z.elem {Z : Rs} {v : Value} {ll : List (List α)} (h : Sl2Z f Z v ll) {i : Nat} (hi : i < ll.length) : ∃ u, SlZ f Z u (nth ll i) ∧
    (∀ {H0 : AHeap} {X : Nat → Prop} {H : AHeap} {F : List (Nat × AObj)} (hS : St H0 X Z H F) {P : Program} {T : Nat → Value} {dst : Option Tmp} {ty : TypeId} {pos : String} {af : Array Edge} {g : Option (Nat × Bool)} {t : TypeId} {x : Operand}, (∀ w, (isAgg t).run P w = .ok false w) → ev T x = .pointer (some ⟨sb v, so v + i, none⟩) →
      OpQ P ⟨dst, .load t x, ty, pos, af, g⟩ T H u []) := by
  rcases h with ⟨_, rfl⟩ | ⟨b, o, c, vs, rfl, h2, h3, h4, h5⟩
  · simp at hi
  · obtain ⟨u, h6, h7⟩ := h5 i hi
    exact ⟨u, by rw [nth_eq hi]; exact h7, fun {H0 X H F} hS {P T dst ty pos af g t x} hu hx => q_load hu hx (hS.zrd h2) h6⟩
theorem q_index_sl2 {P : Program} {T : Nat → Value} {dst : Option Tmp} {ty : TypeId} {pos : String} {af : Array Edge} {g : Option (Nat × Bool)} {Z : Rs} {H0 : AHeap} {X : Nat → Prop} {H : AHeap} {F : List (Nat × AObj)} (hS : St H0 X Z H F) {v : Value} {ll : List (List α)} {t el : TypeId} {x y : Operand} {k : IntKind} {i : Nat} (hu : P.underlying t = some (.slice el)) (hs : ∀ w, (sizeOf el).run P w = .ok 1 w) (h : Sl2Z f Z v ll) (hx : ev T x = v) (hy : ev T y = .int k (i : Nat)) (hi : i < ll.length) :
    OpQ P ⟨dst, .indexAddr t x y, ty, pos, af, g⟩ T H (.pointer (some ⟨sb v, so v + i, none⟩)) [] := by
  rcases h with ⟨_, rfl⟩ | ⟨b, o, c, vs, rfl, h2, _⟩
  · simp at hi
  · exact q_index1 hu hs hx hy hi (hS.zrd h2)
theorem q_index_sl2I {P : Program} {T : Nat → Value} {dst : Option Tmp} {ty : TypeId} {pos : String} {af : Array Edge} {g : Option (Nat × Bool)} {Z : Rs} {H0 : AHeap} {X : Nat → Prop} {H : AHeap} {F : List (Nat × AObj)} (hS : St H0 X Z H F) {v : Value} {ll : List (List α)} {t el : TypeId} {x y : Operand} {k : IntKind} {z : Int} (hu : P.underlying t = some (.slice el)) (hs : ∀ w, (sizeOf el).run P w = .ok 1 w) (h : Sl2Z f Z v ll) (hx : ev T x = v) (hy : ev T y = .int k z) (hz : 0 ≤ z) (hi : z.toNat < ll.length) :
    OpQ P ⟨dst, .indexAddr t x y, ty, pos, af, g⟩ T H (.pointer (some ⟨sb v, so v + z.toNat, none⟩)) [] :=
  q_index_sl2 hS hu hs h hx (i := z.toNat) (by rw [hy, Int.toNat_of_nonneg hz]) hi
theorem q_len_sl2 {P : Program} {T : Nat → Value} {dst : Option Tmp} {ty : TypeId} {pos : String} {af : Array Edge} {g : Option (Nat × Bool)} {Z : Rs} {H0 : AHeap} {X : Nat → Prop} {H : AHeap} {F : List (Nat × AObj)} (hS : St H0 X Z H F) {v : Value} {ll : List (List α)} {t el : TypeId} {x : Operand} (hu : P.underlying t = some (.slice el)) (h : Sl2Z f Z v ll) (hx : ev T x = v) :
    OpQ P ⟨dst, .call { callee := .builtin .len, args := #[x], argTypes := #[t] }, ty, pos, af, g⟩ T H (.int .i64 (ll.length : Nat)) [] := by
  rcases h with ⟨rfl, rfl⟩ | ⟨b, o, c, vs, rfl, h2, _⟩
  · exact q_len_nil hu hx
  · exact q_len_slice hu hx (hS.zrd h2)
theorem Sl2Z.lc {Z : Rs} {H0 : AHeap} {X : Nat → Prop} {H : AHeap} {F : List (Nat × AObj)} (hS : St H0 X Z H F) {v : Value} {ll : List (List α)} (h : Sl2Z f Z v ll) : Lc H v := by
  rcases h with ⟨rfl, _⟩ | ⟨b, o, c, vs, rfl, h2, _⟩
  · exact lc_scalar rfl
  · exact lc_slice (hS.zrd h2).live
end
end Go.Proofs.YtbjlabokijchpaaA
