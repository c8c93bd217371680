/-
  Steps over blocks that bear names: all regions alike.
-/
import Derived.Test.YtbjlabokijchpaaB1
namespace Go.Proofs.YtbjlabokijchpaaA
set_option linter.unusedVariables false
open Go Go.RowKit Go.Shelf
section
variable {F : Fence} {n : Nat} {P : Program} {N0 : AHeap} {ops : Array Oper} {tab : List Nat} {K : ASt → Prop}
theorem alist_of_dlist (hF : Wd F) : ∀ (l : List Oper) (i : Nat) (s : ASt), dList F n P N0 ops tab i l K s → aList F n P N0 ops l K s
  | [], _, s, h => h
  | o :: rest, i, s, h => by
    have ih : ∀ s', dList F n P N0 ops tab (i + 1) rest K s' → aList F n P N0 ops rest K s' := fun s' => alist_of_dlist hF rest (i + 1) s'
    rcases h with ⟨s', ⟨v, Δ, hd, rfl, h1⟩, h2⟩ | h | ⟨fl, R, hfl, hg, hop, hk⟩
    · rcases h1 with ⟨hg, hq, hc⟩ | ⟨hg, rfl, rfl⟩
      · exact .inl ⟨hg, hq.ok hF hc hd (ih _ h2)⟩
      · refine .inr ⟨hg, hd, ?_⟩
        have e : ({ s with H := s.H ++ [] } : ASt) = s := by rw [List.append_nil]
        rw [e] at h2
        exact ih _ h2
    · obtain ⟨_, hg, hop⟩ := h
      refine .inl ⟨hg, ?_⟩
      intro ρ a w hs
      exact Oper.wpIn_mono (fun a' w' ⟨s', ρ', hk, h1, h2⟩ => ⟨s', ρ', ih s' hk, h1, h2⟩) (hop ρ a w hs)
    · exact .inl ⟨hg, hop s.T (fun _ _ => rfl) _ fun v H' hR => ih _ (hk v H' hR).2⟩
/-- The order of a text: each behind all before it. -/
def seqTab (n : Nat) : List Nat := (List.range n).map fun i => 2 ^ i - 1
theorem awp_regs (hF : Wd F) {Q : AEx → ASt → Prop} {s : ASt} {id : Nat} {l : List Oper} (h : dList F n P N0 l.toArray (seqTab l.length) 0 l (fun s' => ∃ s2, Wk N0 s' s2 ∧ Q .normal s2) s) : awp F n P N0 (.region id l.toArray false) Q s :=
  awp_reg hF (alist_of_dlist hF _ _ _ h)
end
section
variable {Fc : Fence} {n : Nat} {P : Program} {N0 : AHeap} {ops : Array Oper} {o : Oper} {rest : List Oper} {K : ASt → Prop} {nt : Nat} {T : Nat → Value} {D : List Nat} {d : Tmp} {v : Value} {tab : List Nat} {i : Nat} {op : Op} {ty : TypeId} {pos : String} {af : Array Edge} {g : Option (Nat × Bool)}
variable {H0 : AHeap} {X : Nat → Prop} {Z : Rs} {H : AHeap} {F F' : List (Nat × AObj)}
/-- A quiet operation that makes one block. -/
theorem x_new (vf : Nat → Value) {ob : AObj} (hS : St H0 X Z H F) (hg : GYes ops o T) (hq : OpQ P o T H (vf H.length) [ob]) (hd : o.dst = some d) (hn : d < nt) (hc : ∀ x ∈ o.op.operands, cOk H x) (hk : ∀ b H', H.length ≤ b → St H0 X Z H' ((b, ob) :: F) → dList Fc n P N0 ops tab (i + 1) rest K ⟨nt, upd T d (vf b), D, H'⟩) :
    dList Fc n P N0 ops tab i (o :: rest) K ⟨nt, T, D, H⟩ := dn hg hq hd hn hc rfl (hk _ _ (Nat.le_refl _) (hS.push ob))
theorem x_store1 (fl : List Nat) (hF : Wd Fc) (hS : St H0 X Z H F) (hfl : floatOk ops tab i fl = true) (hg : GYes ops ⟨none, op, ty, pos, af, g⟩ T) {t : TypeId} {x y : Operand} {j b oo : Nat} {vs : List Value} {sz : Nat} {v : Value} (hop : op = .store t x y) (hs : ∀ w, (sizeOf t).run P w = .ok 1 w) (hx : ev T x = .pointer (some ⟨b, oo, none⟩)) (hy : ev T y = v) (hj : F[j]? = some (b, .cells true vs sz))
    (hc : Lc H v) (ho : oo < vs.length) (hcx : cOk H x) (hcy : cOk H y) (hfx : offF ops fl x = true) (hfy : offF ops fl y = true) (hF' : F.set j (b, .cells true (vs.set oo v) sz) = F') (hk : ∀ H', St H0 X Z H' F' → PendL P ops ⟨nt, T, D, H'⟩ fl ∧ dList Fc n P N0 ops tab (i + 1) rest K ⟨nt, T, D, H'⟩) :
    dList Fc n P N0 ops tab i (⟨none, op, ty, pos, af, g⟩ :: rest) K ⟨nt, T, D, H⟩ := by
  subst hF'
  have h1 := hk _ (hS.setAt hj _)
  exact df_store1 hF fl hfl hg hop hs hx hy (hS.getj hj) hc ho hcx hcy rfl hfx hfy h1.1 h1.2
theorem x_store (fl : List Nat) (hF : Wd Fc) (hS : St H0 X Z H F) (hfl : floatOk ops tab i fl = true) (hg : GYes ops ⟨none, op, ty, pos, af, g⟩ T) {t : TypeId} {x y : Operand} {j b oo m : Nat} {vs us : List Value} {sz : Nat} {v : Value} (hop : op = .store t x y) (hs : ∀ w, (sizeOf t).run P w = .ok m w) (hx : ev T x = .pointer (some ⟨b, oo, none⟩)) (hy : ev T y = v) (hj : F[j]? = some (b, .cells true vs sz))
    (hus : v.cells.toList = us) (hm : us.length = m) (hl : Lv H v) (hc : ∀ u ∈ us, Lc H u) (ho : oo + us.length ≤ vs.length) (hcx : cOk H x) (hcy : cOk H y) (hfx : offF ops fl x = true) (hfy : offF ops fl y = true) (hF' : F.set j (b, .cells true (splice vs oo us) sz) = F') (hk : ∀ H', St H0 X Z H' F' → PendL P ops ⟨nt, T, D, H'⟩ fl ∧ dList Fc n P N0 ops tab (i + 1) rest K ⟨nt, T, D, H'⟩) :
    dList Fc n P N0 ops tab i (⟨none, op, ty, pos, af, g⟩ :: rest) K ⟨nt, T, D, H⟩ := by
  subst hF'
  have h1 := hk _ (hS.setAt hj _)
  exact df_store hF fl hfl hg hop hs hx hy (hS.getj hj) hus hm hl hc ho hcx hcy rfl hfx hfy h1.1 h1.2
/-- append to a slice of one's own: what is appended, by its cells. -/
theorem x_appendG (fl : List Nat) (hF : Wd Fc) (hS : St H0 X Z H F) (hfl : floatOk ops tab i fl = true) {x y : Operand} {sT yT el : TypeId} {ti : TypeInfo} {z vy : Value} {j b oo nn c m sz : Nat} {vs xs vs' : List Value} (n' : Nat) (hn' : nn + m = n') (hg : GYes ops ⟨some d, .call { callee := .builtin .append, args := #[x, y], argTypes := #[sT, yT] }, ty, pos, af, g⟩ T) (hu : P.underlying sT = some (.slice el)) (hi : P.info? el = some ti) (hiz : ti.zero = some z) (hsz : ti.size = sz) (hpos : 0 < ti.bytes) (hzs : z.cells.size = sz)
    (hx : ev T x = .slice (some ⟨b, oo, none⟩) nn c) (hyv : ev T y = vy) (hj : F[j]? = some (b, .cells true vs sz)) (hy0 : ∀ ρ w v', HRel ρ H w → VRel ρ vy v' → ∃ ns, Src P sz yT v' m ns w ∧ LRel ρ xs ns) (htail : oo + nn * sz = vs.length) (hxs : xs.length = m * sz) (hbig : (2 * n' + 1000) * ti.bytes ≤ 281474976710656) (hcx : cOk H x) (hcy : cOk H y) (hd : d < nt) (hfx : offF ops fl x = true) (hfy : offF ops fl y = true)
    (hvs : vs.drop oo ++ xs = vs') (hk : ∀ b' H', H.length ≤ b' → St H0 X Z H' (F.set j (b', .cells true vs' sz)) → PendL P ops ⟨nt, upd T d (.slice (some ⟨b', 0, none⟩) n' n'), D, H'⟩ fl ∧ dList Fc n P N0 ops tab (i + 1) rest K ⟨nt, upd T d (.slice (some ⟨b', 0, none⟩) n' n'), D, H'⟩) :
    dList Fc n P N0 ops tab i (⟨some d, .call { callee := .builtin .append, args := #[x, y], argTypes := #[sT, yT] }, ty, pos, af, g⟩ :: rest) K ⟨nt, T, D, H⟩ := by
  subst hn' hvs
  have h1 := hk _ _ (Nat.le_refl _) (hS.grow hj (.cells true (vs.drop oo ++ xs) sz))
  refine df fl (v := .slice (some ⟨H.length, 0, none⟩) (nn + m) (nn + m)) (H' := (H.set b AObj.dead ++ [AObj.cells true (vs.drop oo ++ xs) sz] : AHeap)) hfl hg (fun T' hT K' hk' => ?_) h1.1 h1.2
  exact o_appendG (s := ⟨nt, T', D, H⟩) hF hu hi hiz hsz hpos hzs ((offF_ev hfx hT).trans hx) (fun ρ w v' hh hv => hy0 ρ w v' hh (by
    have e : ev (⟨nt, T', D, H⟩ : ASt).T y = vy := (offF_ev hfy hT).trans hyv
    rwa [e] at hv)) (hS.getj hj) htail hxs hbig hcx hcy hd hk'
theorem x_append {α : Type} {f : α → Value} (fl : List Nat) (hF : Wd Fc) (hS : St H0 X Z H F) (hfl : floatOk ops tab i fl = true) {x y : Operand} {sT yT el e' : TypeId} {ti : TypeInfo} {z vy : Value} {j b oo nn c : Nat} {vs vs' : List Value} {l : List α} (n' : Nat) (hn' : nn + l.length = n') (hg : GYes ops ⟨some d, .call { callee := .builtin .append, args := #[x, y], argTypes := #[sT, yT] }, ty, pos, af, g⟩ T) (hu : P.underlying sT = some (.slice el)) (hy : P.underlying yT = some (.slice e')) (hi : P.info? el = some ti) (hiz : ti.zero = some z) (hsz : ti.size = 1) (hpos : 0 < ti.bytes) (hzs : z.cells.size = 1)
    (hx : ev T x = .slice (some ⟨b, oo, none⟩) nn c) (hyv : ev T y = vy) (hj : F[j]? = some (b, .cells true vs 1)) (hSl : Sl f H vy l) (hf : ∀ x, Lc H (f x)) (htail : oo + nn = vs.length) (hbig : (2 * n' + 1000) * ti.bytes ≤ 281474976710656) (hcx : cOk H x) (hcy : cOk H y) (hd : d < nt) (hfx : offF ops fl x = true) (hfy : offF ops fl y = true)
    (hvs : vs.drop oo ++ l.map f = vs') (hk : ∀ b' H', H.length ≤ b' → St H0 X Z H' (F.set j (b', .cells true vs' 1)) → PendL P ops ⟨nt, upd T d (.slice (some ⟨b', 0, none⟩) n' n'), D, H'⟩ fl ∧ dList Fc n P N0 ops tab (i + 1) rest K ⟨nt, upd T d (.slice (some ⟨b', 0, none⟩) n' n'), D, H'⟩) :
    dList Fc n P N0 ops tab i (⟨some d, .call { callee := .builtin .append, args := #[x, y], argTypes := #[sT, yT] }, ty, pos, af, g⟩ :: rest) K ⟨nt, T, D, H⟩ :=
  x_appendG fl hF hS hfl n' hn' hg hu hi hiz hsz hpos hzs hx hyv hj (fun ρ w v' hh hv => src_sl hf hy hSl ρ w v' hh hv) (by rw [Nat.mul_one]; exact htail) (by simp) hbig hcx hcy hd hfx hfy hvs hk
/-- A call of a function (a value, or a function's name): what it answers, and how the heap is behind it. -/
theorem x_call (fl : List Nat) (hF : Wd Fc) {dst : Option Tmp} {f : FuncId} {x : Operand} {xs : Array Operand} {ats : Array TypeId} {cs : Array Value} {args : List Value} {Q : Value → AHeap → Prop} (hfl : floatOk ops tab i fl = true) (hg : GYes ops ⟨dst, .call { callee := .value x, args := xs, argTypes := ats }, ty, pos, af, g⟩ T) (hE : Enters P f) (hx : ev T x = .func (.func f) #[] cs) (hargs : xs.toList.map (ev T) ++ cs.toList = args)
    (h : ACalls P f args H Q) (hd : dOk nt dst) (hc : ∀ y ∈ #[x] ++ xs, cOk H y) (hfx : offF ops fl x = true) (hfy : xs.toList.all (offF ops fl) = true) (hm : ∀ v H', Q v H' → ∀ d ∈ D, H'[d]? = some .mark) (hk : ∀ v H', Q v H' → PendL P ops ⟨nt, updo T dst v, D, H'⟩ fl ∧ dList Fc n P N0 ops tab (i + 1) rest K ⟨nt, updo T dst v, D, H'⟩) :
    dList Fc n P N0 ops tab i (⟨dst, .call { callee := .value x, args := xs, argTypes := ats }, ty, pos, af, g⟩ :: rest) K ⟨nt, T, D, H⟩ := by
  refine dfR fl Q hfl hg (fun T' hT K' hk' => ?_) (fun v H' hq => by rw [put_updo]; exact hk v H' hq)
  refine o_callv (s := ⟨nt, T', D, H⟩) hF hE ((offF_ev hfx hT).trans hx) ?_ h hc hd hm hk'
  rw [← hargs]
  congr 1
  apply List.map_congr_left
  intro y hy
  exact offF_ev (List.all_eq_true.1 hfy y hy) hT
theorem x_mapUpdate {κ : Type} [DecidableEq κ] {kf : κ → Value} (fl : List Nat) (hF : Wd Fc) (hS : St H0 X Z H F) (hfl : floatOk ops tab i fl = true) {t k el : TypeId} {x y u : Operand} {j b c : Nat} {l : List (Ent κ)} {a : κ} {v : Value} (hg : GYes ops ⟨none, .mapUpdate t x y u, ty, pos, af, g⟩ T) (hu : P.underlying t = some (.map k el)) (Kk : KeyOk P k kf)
    (hx : ev T x = .map (some b)) (hy : ev T y = kf a) (hv : ev T u = v) (hj : F[j]? = some (b, .map (mk kf l) c)) (hcx : cOk H x) (hcy : cOk H y) (hcu : cOk H u) (hfx : offF ops fl x = true) (hfy : offF ops fl y = true) (hfu : offF ops fl u = true) (hF' : F.set j (b, .map (mk kf (mput l a v c)) (mclk l a c)) = F')
    (hk : ∀ H', St H0 X Z H' F' → PendL P ops ⟨nt, T, D, H'⟩ fl ∧ dList Fc n P N0 ops tab (i + 1) rest K ⟨nt, T, D, H'⟩) : dList Fc n P N0 ops tab i (⟨none, .mapUpdate t x y u, ty, pos, af, g⟩ :: rest) K ⟨nt, T, D, H⟩ := by
  subst hF'
  have h1 := hk _ (hS.setAt hj _)
  refine df fl (v := undef) (H' := H.set b (.map (mk kf (mput l a v c)) (mclk l a c))) hfl hg (fun T' hT K' hk' => ?_) h1.1 h1.2
  exact o_mapUpdate (s := ⟨nt, T', D, H⟩) hF hu Kk ((offF_ev hfx hT).trans hx) ((offF_ev hfy hT).trans hy) ((offF_ev hfu hT).trans hv) (hS.getj hj) hcx hcy hcu hk'
end
section
variable {n : Nat} {P : Program} {N0 : AHeap} {ops : Array Oper} {rest : List Oper} {K : ASt → Prop} {nt : Nat} {T : Nat → Value} {dst : Option Tmp} {tab : List Nat} {i : Nat} {ty : TypeId} {pos : String} {af : Array Edge} {g : Option (Nat × Bool)} {H : AHeap}
/-- yield. -/
theorem x_yield (fl : List Nat) {t : Tmp} {xs : Array Operand} {ats : Array TypeId} {y : Value} {args : List Value} {R : Bool → AHeap → Prop} (hfl : floatOk ops tab i fl = true) (hg : GYes ops ⟨dst, .call { callee := .value (.tmp t), args := xs, argTypes := ats }, ty, pos, af, g⟩ T) (hx : T t = y) (hargs : xs.toList.map (ev T) = args) (h : Ylds P y args H R) (hd : dOk nt dst) (hc : ∀ z ∈ xs, cOk H z)
    (hfx : offF ops fl (.tmp t) = true) (hfy : xs.toList.all (offF ops fl) = true) (hk : ∀ b H', R b H' → PendL P ops ⟨nt, updo T dst (.bool b), [], H'⟩ fl ∧ dList Fence.wide n P N0 ops tab (i + 1) rest K ⟨nt, updo T dst (.bool b), [], H'⟩) :
    dList Fence.wide n P N0 ops tab i (⟨dst, .call { callee := .value (.tmp t), args := xs, argTypes := ats }, ty, pos, af, g⟩ :: rest) K ⟨nt, T, [], H⟩ := by
  refine dfR fl (fun v H' => ∃ b, v = .bool b ∧ R b H') hfl hg (fun T' hT K' hk' => ?_) (fun v H' ⟨b, hv, hq⟩ => by subst hv; rw [put_updo]; exact hk b H' hq)
  refine o_yield (s := ⟨nt, T', [], H⟩) ((offF_ev hfx hT).trans hx : T' t = y) ?_ h hc hd rfl fun b H' hR => hk' _ H' ⟨b, rfl, hR⟩
  rw [← hargs]
  apply List.map_congr_left
  intro y hy
  exact offF_ev (List.all_eq_true.1 hfy y hy) hT
end
/-! ### Ends -/
section
variable {P : Program} {N0 H : AHeap} {nt : Nat} {T : Nat → Value} {fn : Func} {Q : Value → AHeap → Prop} {vs : List Value} {v : Value} {s : ASt}
def keep0 (n : Nat) : Nat → Option Nat := fun b => if b < n then some b else none
theorem gc_none (k : K0 N0 H) : Gc N0 (keep0 N0.length) H N0 := by
  have e1 : ∀ b c, keep0 N0.length b = some c → b < N0.length ∧ c = b := fun b c h => by
    unfold keep0 at h
    split at h
    · rename_i hb; cases h; exact ⟨hb, rfl⟩
    · cases h
  refine ⟨fun b hb => if_pos hb, Nat.le_refl _, fun b c d hb hc => ?_, fun b hb => if_neg (by omega), fun b c hb => ?_, fun g vs sz hg => ?_⟩
  · obtain ⟨_, rfl⟩ := e1 _ _ hb
    obtain ⟨_, rfl⟩ := e1 _ _ hc
    rfl
  · obtain ⟨h1, rfl⟩ := e1 _ _ hb
    exact .inl ⟨h1, (k.get _ h1 fun h => h).symm, (k.get _ h1 fun h => h).symm⟩
  · have hl := lt_of_some hg
    exact ⟨if_pos hl, by rw [k.get _ hl fun h => h]; exact hg⟩
/-- A result without addresses; nothing of what was there is changed: all that is new is dropped. -/
theorem ret_none (hs : s = ⟨nt, T, [], H⟩) (k : K0 N0 H) (hr : ARes P s fn.results.toList vs) (hv : retv vs = v) (hn : noAddr v = true) (hQ : Q v N0) : Ret P N0 fn Q s := by
  subst hs hv
  exact ⟨.nil, .inr ⟨vs, _, _, N0, hr, gc_none k, .noAddr hn, hQ⟩⟩
/-- .. all as it stands. -/
theorem ret_is (hs : s = ⟨nt, T, [], H⟩) (hr : ARes P s fn.results.toList vs) (hv : retv vs = v) (hQ : Q v H) : Ret P N0 fn Q s := by
  subst hs hv
  exact ⟨.nil, .inl ⟨vs, hr, hQ⟩⟩
theorem ret_noneD {d : Nat} (hs : s = ⟨nt, T, [d], H⟩) (k : K0 N0 (H.set d .none)) (hr : ARes P ⟨nt, T, [d], H.set d .none⟩ fn.results.toList vs) (hv : retv vs = v) (hn : noAddr v = true) (hQ : Q v N0) : Ret P N0 fn Q s := by
  subst hs hv
  exact ⟨by simp, .inr ⟨vs, _, _, N0, hr, gc_none k, .noAddr hn, hQ⟩⟩
theorem ret_isD {d : Nat} (hs : s = ⟨nt, T, [d], H⟩) (hr : ARes P ⟨nt, T, [d], H.set d .none⟩ fn.results.toList vs) (hv : retv vs = v) (hQ : Q v (H.set d .none)) : Ret P N0 fn Q s := by
  subst hs hv
  exact ⟨by simp, .inl ⟨vs, hr, hQ⟩⟩
end
/-! ### nil, as a slice of no elements -/
def PS (N : Nat) (v2 v : Value) : Prop := ∀ ρ v', ρ N = .null → VRel ρ v v' → VRel ρ v2 v'
theorem PS.refl (N : Nat) (v : Value) : PS N v v := fun _ _ _ h => h
theorem PS.nil (N o : Nat) : PS N (.slice (some ⟨N, o, none⟩) 0 0) (.slice none 0 0) := fun ρ v' hn hv => by
  rw [hv.scalar_eq rfl]; exact .empty hn
theorem wk_null {N0 H H2 : AHeap} {nt : Nat} {T T2 : Nat → Value} {D : List Nat} {ob : AObj} (hg : ∀ vs sz, ob ≠ .glob vs sz) (hT : ∀ t, PS H.length (T2 t) (T t)) (hl : H2.length = H.length)
    (hH : ∀ b : Nat, H2[b]? = H[b]? ∨ ∃ (wr : Bool) (vs2 vs : List Value) (sz : Nat), H2[b]? = some (AObj.cells wr vs2 sz) ∧ H[b]? = some (AObj.cells wr vs sz) ∧ vs2.length = vs.length ∧ ∀ i, PS H.length (vs2.getD i undef) (vs.getD i undef)) :
    Wk N0 ⟨nt, T, D, H⟩ ⟨nt, T2, D, H2 ++ [ob]⟩ := by
  intro ρ a w hs
  obtain ⟨ρ', r1, r2, r3, r4⟩ := null_new hs.heap (o := ob) hg
  change ρ' H.length = .null at r1
  change ∀ b, b ≠ H.length → ρ' b = ρ b at r2
  change HRel ρ' (H ++ [ob]) w at r4
  have hbl : ∀ b, b < H.length → ρ' b = ρ b := fun b hb => r2 b (by omega)
  have hwr : ∀ b, wr (H2 ++ [ob]) b → wr (H ++ [ob]) b := fun b ⟨o, h1, h2⟩ => by
    by_cases hb : b < H.length
    · rw [List.getElem?_append_left (by omega)] at h1
      rcases hH b with e | ⟨wr', vs2, vs, sz, e1, e2, _⟩
      · exact ⟨o, by rw [List.getElem?_append_left hb, ← e]; exact h1, h2⟩
      · rw [e1] at h1; cases h1
        exact ⟨.cells wr' vs sz, by rw [List.getElem?_append_left hb]; exact e2, h2⟩
    · rw [List.getElem?_append_right (by omega)] at h1
      refine ⟨o, ?_, h2⟩
      rw [List.getElem?_append_right (by omega), ← hl]; exact h1
  have hheap : HRel ρ' (H2 ++ [ob]) w := by
    refine ⟨fun b hb => r4.bound b (by simpa [hl] using hb), fun b l hb => ?_, fun b c l m hne hb hc hw => r4.inj b c l m hne hb hc (hwr b hw), fun g vs sz hg' => ?_, fun b hb => ?_⟩
    · have hblt : b < H.length := by
        by_cases e : b = H.length
        · rw [e, r1] at hb; cases hb
        · have := lt_of_some (r4.rel b l hb).choose_spec.1
          simp at this; omega
      obtain ⟨o, h1, h2, h3⟩ := r4.rel b l hb
      rw [List.getElem?_append_left hblt] at h1
      rw [List.getElem?_append_left (by omega)]
      rcases hH b with e | ⟨wr', vs2, vs, sz, e1, e2, e3, e4⟩
      · exact ⟨o, e.trans h1, h2, h3⟩
      · rw [h1] at e2; cases e2
        obtain ⟨k1, cs, E, fr, k2, k3, k4, k5, k6⟩ := h3
        exact ⟨_, e1, h2, k1, cs, E, fr, k2, by rw [e3]; exact k3, k4, fun i hi => e4 i ρ' _ r1 (k5 i (by rw [← e3]; exact hi)), k6⟩
    · by_cases hgl : g < H.length
      · rw [List.getElem?_append_left (by omega)] at hg'
        rcases hH g with e | ⟨_, _, _, _, e1, _⟩
        · exact r4.glob g vs sz (by rw [List.getElem?_append_left hgl, ← e]; exact hg')
        · rw [e1] at hg'; cases hg'
      · rw [List.getElem?_append_right (by omega)] at hg'
        have := List.mem_of_getElem? hg'
        simp at this
        exact absurd this.symm (hg vs sz)
    · have h1 := r4.isdead b hb
      have hblt : b < H.length := by
        by_cases e : b = H.length
        · rw [e, r1] at hb; cases hb
        · have := lt_of_some h1
          simp at this; omega
      rw [List.getElem?_append_left hblt] at h1
      rw [List.getElem?_append_left (by omega)]
      rcases hH b with e | ⟨_, _, _, _, _, e2, _⟩
      · exact e.trans h1
      · rw [h1] at e2; cases e2
  refine ⟨ρ', ⟨hheap, ⟨hs.tmps.1, fun t => hT t ρ' _ r1 ((hs.tmps.2 t).mono r3)⟩, ?_, by have := hs.len; show N0.length ≤ (H2 ++ [ob]).length; simp; have h2 : N0.length ≤ H.length := hs.len; omega, hs.entry.of fun b hb => .inl (hbl b (Nat.lt_of_lt_of_le hb hs.len))⟩, ?_⟩
  · refine DRel.frm _ _ (fun d _ l h1 h2 => ?_) hs.defers
    have hd := lt_of_some h2
    refine ⟨(hbl d hd).trans h1, ?_⟩
    change (H2 ++ [ob])[d]? = some .mark
    rw [List.getElem?_append_left (by have : d < H.length := hd; omega)]
    rcases hH d with e | ⟨_, _, _, _, _, e2, _⟩
    · exact e.trans h2
    · change H[d]? = some .mark at h2
      rw [h2] at e2; cases e2
  · refine ⟨rfl, rfl, rfl, Nat.le_refl _, fun _ _ _ => rfl, fun b hb => .inl (hbl b (Nat.lt_of_lt_of_le hb hs.len)), fun b l' hb hw => .inl ?_⟩
    have hblt : b < H.length := by
      by_cases e : b = H.length
      · rw [e, r1] at hb; cases hb
      · have := lt_of_some (r4.rel b l' hb).choose_spec.1
        simp at this; omega
    have hb0 := hb
    rw [hbl b hblt] at hb0
    obtain ⟨o, h1, h2⟩ := hwr b hw
    rw [List.getElem?_append_left hblt] at h1
    exact ⟨b, l', hb0, rfl, o, h1, h2⟩
section
variable {Fc : Fence} {n : Nat} {P : Program} {N0 : AHeap} {Q : AEx → ASt → Prop} {c : Code} {nt : Nat} {T : Nat → Value} {D : List Nat} {H0 : AHeap} {X : Nat → Prop} {Z : Rs} {H : AHeap} {F : List (Nat × AObj)}
/-- A slot that holds nil: as a slice of no elements, of a block of one's own. -/
theorem awp_nil (hS : St H0 X Z H F) (t sz : Nat) (hT : T t = .slice none 0 0) (hk : ∀ b H', H.length ≤ b → St H0 X Z H' ((b, .cells true [] sz) :: F) → awp Fc n P N0 c Q ⟨nt, upd T t (.slice (some ⟨b, 0, none⟩) 0 0), D, H'⟩) : awp Fc n P N0 c Q ⟨nt, T, D, H⟩ := by
  refine awp_wk (wk_null (H2 := H) (ob := .cells true [] sz) (T2 := upd T t (.slice (some ⟨H.length, 0, none⟩) 0 0)) (by simp) (fun u => ?_) rfl (fun b => .inl rfl)) (hk _ _ (Nat.le_refl _) (hS.push _))
  by_cases e : u = t
  · subst e; rw [upd_same, hT]; exact .nil _ _
  · rw [upd_other _ _ e]; exact .refl _ _
/-- .. and one in a block. -/
theorem awp_nilc (hS : St H0 X Z H F) {j b o sz sz' : Nat} {vs : List Value} (hj : F[j]? = some (b, .cells true vs sz)) (hv : vs[o]? = some (.slice none 0 0)) (hk : ∀ b' H', H.length ≤ b' → St H0 X Z H' ((b', .cells true [] sz') :: F.set j (b, .cells true (vs.set o (.slice (some ⟨b', 0, none⟩) 0 0)) sz)) → awp Fc n P N0 c Q ⟨nt, T, D, H'⟩) : awp Fc n P N0 c Q ⟨nt, T, D, H⟩ := by
  have h1 := (hS.setAt hj (.cells true (vs.set o (.slice (some ⟨H.length, 0, none⟩) 0 0)) sz)).push (.cells true [] sz')
  rw [List.length_set] at h1
  refine awp_wk (wk_null (H2 := H.set b (.cells true (vs.set o (.slice (some ⟨H.length, 0, none⟩) 0 0)) sz)) (ob := .cells true [] sz') (T2 := T) (by simp) (fun u => .refl _ _) (by simp) (fun b' => ?_)) (hk _ _ (Nat.le_refl _) h1)
  by_cases e : b = b'
  · subst e
    refine .inr ⟨true, _, vs, sz, by rw [List.getElem?_set, if_pos rfl, if_pos (lt_of_some (hS.getj hj))], hS.getj hj, by simp, fun i => ?_⟩
    have ho := (List.getElem?_eq_some_iff.1 hv).1
    rw [List.getD_eq_getElem?_getD, List.getD_eq_getElem?_getD, List.getElem?_set]
    by_cases e : o = i
    · subst e; rw [if_pos rfl, if_pos ho, hv]; exact .nil _ _
    · rw [if_neg e]; exact .refl _ _
  · rw [List.getElem?_set, if_neg e]; exact .inl rfl
/-- The walk begins. -/
theorem acalls_st {f : FuncId} {fn : Func} {args : List Value} {Q : Value → AHeap → Prop} (hf : P.funcs[f]? = some fn) (hb : fn.body = some c) (hnt : fn.ntmps = nt) (hn : Nat.ble args.length nt = true) (h : awp Fence.wide 1 P H c (RetQ P H fn Q) ⟨nt, T0 args, [], H⟩) : ACalls P f args H Q := acalls_of hf hb hnt (Nat.le_of_ble_eq_true hn) h
end
end Go.Proofs.YtbjlabokijchpaaA
