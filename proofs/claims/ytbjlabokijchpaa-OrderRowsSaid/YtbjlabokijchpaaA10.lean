/-
  States that say less: slots of which nothing is known, blocks dropped, blocks named anew.
-/
import Derived.Test.YtbjlabokijchpaaA9
namespace Go.Proofs.YtbjlabokijchpaaA
set_option linter.unusedVariables false
open Go Go.RowKit
/-- Whatever the state s stands for, s2 stands for it, too. -/
def Wk (N0 : AHeap) (s s2 : ASt) : Prop := ∀ ρ a w, SRel N0 ρ s a w → ∃ ρ2, SRel N0 ρ2 s2 a w ∧ Fr N0.length ρ s.H w ρ2 s2.H w
theorem Wk.refl (N0 : AHeap) (s : ASt) : Wk N0 s s := fun ρ a w h => ⟨ρ, h, .refl _ _ _ _⟩
theorem Wk.trans {N0 : AHeap} {s s1 s2 : ASt} (h : Wk N0 s s1) (k : Wk N0 s1 s2) : Wk N0 s s2 := fun ρ a w hs => by
  obtain ⟨ρ1, h1, h2⟩ := h ρ a w hs
  obtain ⟨ρ2, h3, h4⟩ := k ρ1 a w h1
  exact ⟨ρ2, h3, h2.trans h4⟩
def comp (φ : Nat → Option Nat) (ρ : Ren) : Ren := fun b => match φ b with | some c => ρ c | none => .none
theorem comp_some {φ : Nat → Option Nat} {b c : Nat} (h : φ b = some c) (ρ : Ren) : comp φ ρ b = ρ c := by unfold comp; rw [h]
theorem comp_none {φ : Nat → Option Nat} {b : Nat} (h : φ b = none) (ρ : Ren) : comp φ ρ b = .none := by unfold comp; rw [h]
theorem comp_inv {φ : Nat → Option Nat} {ρ : Ren} {b : Nat} (h : comp φ ρ b ≠ .none) : ∃ c, φ b = some c ∧ comp φ ρ b = ρ c := by
  cases hb : φ b with
  | none => exact absurd (comp_none hb ρ) h
  | some c => exact ⟨c, rfl, comp_some hb ρ⟩
def VSub (φ : Nat → Option Nat) (v2 v : Value) : Prop := ∀ ρ v', VRel ρ v v' → VRel (comp φ ρ) v2 v'
section
variable {φ : Nat → Option Nat}
theorem VSub.junk (v : Value) : VSub φ junk v := fun ρ v' _ => .junk _ _
theorem VSub.scalar {v : Value} (h : Scalar v = true) : VSub φ v v := fun ρ v' hv => by rw [hv.scalar_eq h]; exact .scalar h _
theorem VSub.undef : VSub φ undef undef := fun ρ v' h => by rw [vrel_undef h]; exact .undef _
theorem VSub.ptr {b2 b o : Nat} (h : φ b2 = some b) : VSub φ (.pointer (some ⟨b2, o, none⟩)) (.pointer (some ⟨b, o, none⟩)) := fun ρ v' hv => by
  cases hv with
  | ptr hl => exact .ptr ((comp_some h ρ).trans hl)
  | dead hd => exact .dead ((comp_some h ρ).trans hd)
theorem VSub.slice {b2 b o n c : Nat} (h : φ b2 = some b) : VSub φ (.slice (some ⟨b2, o, none⟩) n c) (.slice (some ⟨b, o, none⟩) n c) := fun ρ v' hv => by
  cases hv with
  | slice hl h1 h2 h3 h4 => exact .slice ((comp_some h ρ).trans hl) h1 h2 h3 h4
  | empty hl => exact .empty ((comp_some h ρ).trans hl)
  | dead hd => exact .dead ((comp_some h ρ).trans hd)
theorem VSub.sliceCap {b2 b o n c c2 : Nat} (h : φ b2 = some b) (hn : n ≤ c2) (hc : c2 ≤ c) : VSub φ (.slice (some ⟨b2, o, none⟩) n c2) (.slice (some ⟨b, o, none⟩) n c) := fun ρ v' hv => by
  cases hv with
  | slice hl h1 h2 h3 h4 => exact .slice ((comp_some h ρ).trans hl) hn (by omega) h3 h4
  | empty hl =>
    obtain rfl : c2 = 0 := by omega
    exact .empty ((comp_some h ρ).trans hl)
  | dead hd => exact .dead ((comp_some h ρ).trans hd)
theorem VSub.map {b2 b : Nat} (h : φ b2 = some b) : VSub φ (.map (some b2)) (.map (some b)) := fun ρ v' hv => by
  cases hv with
  | map hl => exact .map ((comp_some h ρ).trans hl)
  | dead hd => exact .dead ((comp_some h ρ).trans hd)
theorem VSub.yield {b2 b : Nat} (h : φ b2 = some b) : VSub φ (.func (.yield b2) #[] #[]) (.func (.yield b) #[] #[]) := fun ρ v' hv => by
  cases hv with
  | yield hl => exact .yield ((comp_some h ρ).trans hl)
  | func hf => exact hf.elim
  | dead hd => exact .dead ((comp_some h ρ).trans hd)
theorem VSub.agg {vs2 vs : Array Value} (hs : vs2.size = vs.size) (h : ∀ i, i < vs.size → VSub φ (vs2.getD i Go.undef) (vs.getD i Go.undef)) : VSub φ (.agg vs2) (.agg vs) := fun ρ v' hv => by
  cases hv with
  | agg h1 h2 => exact .agg (hs.trans h1) fun i hi => h i (by omega) ρ _ (h2 i (by omega))
  | dead hd => exact hd.elim
theorem VSub.tuple {vs2 vs : Array Value} (hs : vs2.size = vs.size) (h : ∀ i, i < vs.size → VSub φ (vs2.getD i Go.undef) (vs.getD i Go.undef)) : VSub φ (.tuple vs2) (.tuple vs) := fun ρ v' hv => by
  cases hv with
  | tuple h1 h2 => exact .tuple (hs.trans h1) fun i hi => h i (by omega) ρ _ (h2 i (by omega))
  | dead hd => exact hd.elim
theorem VSub.func {f : FuncId} {cs2 cs : Array Value} (hs : cs2.size = cs.size) (h : ∀ i, i < cs.size → VSub φ (cs2.getD i Go.undef) (cs.getD i Go.undef)) : VSub φ (.func (.func f) #[] cs2) (.func (.func f) #[] cs) := fun ρ v' hv => by
  obtain ⟨fs', cs', rfl, h1, h2, h3, h4⟩ := vrel_func hv
  exact .func trivial h1 (fun i hi => by simp at hi) (hs.trans h3) fun i hi => h i (by omega) ρ _ (h4 i (by omega))
/-- Row by row. -/
def LSub (φ : Nat → Option Nat) : List Value → List Value → Prop
  | [], [] => True
  | v2 :: l2, v :: l => VSub φ v2 v ∧ LSub φ l2 l
  | _, _ => False
theorem LSub.length : ∀ {l2 l : List Value}, LSub φ l2 l → l2.length = l.length
  | [], [], _ => rfl
  | [], _ :: _, h => h.elim
  | _ :: _, [], h => h.elim
  | v2 :: l2, v :: l, h => by simp [LSub.length h.2]
theorem LSub.at : ∀ {l2 l : List Value}, LSub φ l2 l → ∀ i, VSub φ (l2.getD i Go.undef) (l.getD i Go.undef)
  | [], [], _, i => by simpa using VSub.undef
  | [], _ :: _, h, _ => h.elim
  | _ :: _, [], h, _ => h.elim
  | v2 :: l2, v :: l, h, i => by
    cases i with
    | zero => simpa using h.1
    | succ i => simpa using LSub.at h.2 i
theorem LSub.scalars : ∀ {l : List Value}, l.all Scalar = true → LSub φ l l
  | [], _ => trivial
  | v :: l, h => by
    simp only [List.all_cons, Bool.and_eq_true] at h
    exact ⟨.scalar h.1, LSub.scalars h.2⟩
structure OSub (φ : Nat → Option Nat) (o2 o : AObj) : Prop where
  wr : o2.wr = true → o.wr = true
  dead : o = .dead → o2 = .dead
  rel : ∀ ρ l w, ORel ρ l w o → ORel (comp φ ρ) l w o2
theorem OSub.none (o : AObj) (h : o ≠ .dead) : OSub φ .none o := ⟨by simp [AObj.wr], fun e => absurd e h, fun _ _ _ _ => trivial⟩
theorem OSub.deads : OSub φ .dead .dead := ⟨by simp [AObj.wr], fun _ => rfl, fun _ _ _ h => h⟩
theorem OSub.cells {wr : Bool} {vs2 vs : List Value} {sz : Nat} (h : LSub φ vs2 vs) : OSub φ (.cells wr vs2 sz) (.cells wr vs sz) :=
  ⟨fun e => e, fun e => (by cases e), fun ρ l w ⟨h1, cs, E, fr, h2, h3, h4, h5, h6⟩ => ⟨h1, cs, E, fr, h2, by rw [h.length]; exact h3, h4, fun i hi => h.at i ρ _ (h5 i (by rw [← h.length]; exact hi)), h6⟩⟩
theorem OSub.mark : OSub φ .mark .mark := ⟨fun e => e, fun e => (by cases e), fun _ _ _ h => h⟩
theorem OSub.map {es2 es : List MapEntry} {c : Nat} (hl : es2.length = es.length) (h : ∀ i, i < es.length → (es2.getD i default).key = (es.getD i default).key ∧ VSub φ (es2.getD i default).val (es.getD i default).val ∧ (es2.getD i default).born = (es.getD i default).born) :
    OSub φ (.map es2 c) (.map es c) :=
  ⟨fun e => e, fun e => (by cases e), fun ρ l w ⟨es', h1, h2, h3⟩ => ⟨es', h1, hl.trans h2, fun i hi => by
    have hi' : i < es.length := by omega
    exact ⟨(h i hi').1.trans (h3 i hi').1, (h i hi').2.1 ρ _ (h3 i hi').2.1, (h i hi').2.2.trans (h3 i hi').2.2⟩⟩⟩
theorem OSub.loop {st : LoopState} {pe : Option Code} {fn : FuncId} {nt : Nat} {T2 T : Nat → Value} {ps : Array Tmp} {asg bo : Code} (h : ∀ t, VSub φ (T2 t) (T t)) : OSub φ (.loop st pe fn nt T2 ps asg bo) (.loop st pe fn nt T ps asg bo) :=
  ⟨fun e => e, fun e => (by cases e), fun ρ l w ⟨r, h1, h2, h3, h4, h5, h6⟩ => ⟨r, h1, h2, h3, h4, ⟨h5.1, fun t => h t ρ _ (h5.2 t)⟩, h6⟩⟩
end
/-- Blocks dropped, and named anew: φ tells where a new name's block was. -/
structure Gc (N0 : AHeap) (φ : Nat → Option Nat) (H H2 : AHeap) : Prop where
  id : ∀ b, b < N0.length → φ b = some b
  len : N0.length ≤ H2.length
  inj : ∀ b c d, φ b = some d → φ c = some d → b = c
  dom : ∀ b, H2.length ≤ b → φ b = none
  obj : ∀ b c, φ b = some c → (b < N0.length ∧ N0[b]? = H[b]? ∧ H2[b]? = H[b]?) ∨ (∃ o2 o, H2[b]? = some o2 ∧ H[c]? = some o ∧ OSub φ o2 o)
  glob : ∀ g vs sz, H2[g]? = some (.glob vs sz) → φ g = some g ∧ H[g]? = some (.glob vs sz)
theorem Gc.wr {N0 H H2 : AHeap} {φ : Nat → Option Nat} (h : Gc N0 φ H H2) {b c : Nat} (hb : φ b = some c) (hw : wr H2 b) : Go.Proofs.YtbjlabokijchpaaA.wr H c := by
  rcases h.obj b c hb with ⟨h1, h2, h3⟩ | ⟨o2, o, h1, h2, h3⟩
  · have := h.id b h1
    rw [hb] at this; cases this
    obtain ⟨o, k1, k2⟩ := hw
    exact ⟨o, h3 ▸ k1, k2⟩
  · obtain ⟨o', k1, k2⟩ := hw
    rw [h1] at k1; cases k1
    exact ⟨o, h2, h3.wr k2⟩
theorem Gc.heap {N0 H H2 : AHeap} {φ : Nat → Option Nat} (h : Gc N0 φ H H2) {ρ : Ren} {w : World} (hh : HRel ρ H w) (he : Entry N0 ρ) : HRel (comp φ ρ) H2 w := by
  refine ⟨fun b hb => comp_none (h.dom b hb) ρ, fun b l hb => ?_, fun b c l m hne hb hc hw => ?_, fun g vs sz hg => ?_, fun b hb => ?_⟩
  · obtain ⟨c, h1, h2⟩ := comp_inv (by rw [hb]; simp)
    rw [h2] at hb
    obtain ⟨o, q1, q2, q3⟩ := hh.rel c l hb
    rcases h.obj b c h1 with ⟨k1, k2, k3⟩ | ⟨o2, o', k1, k2, k3⟩
    · have := h.id b k1
      rw [h1] at this; cases this
      refine ⟨o, k3.trans q1, q2, ?_⟩
      obtain ⟨ρ0, w0, e1, e2⟩ := he
      have hn := (e2 b k1).1 (by rw [hb]; simp)
      cases h0 : ρ0 b with
      | none => exact absurd h0 hn
      | null => exact absurd h0 ((e2 b k1).2 l hb)
      | dead =>
        have := e1.isdead b h0
        rw [k2, q1] at this; cases this
        exact q3.elim
      | «at» l0 =>
        obtain ⟨o0, p1, p2, p3⟩ := e1.rel b l0 h0
        rw [k2, q1] at p1; cases p1
        refine (p3.cut (m := N0.length) e1.bound q3).mono (fun b' hb' => .inl ?_) rfl
        by_cases e : b' < N0.length
        · rw [res_lt e, comp_some (h.id b' e)]
        · exact absurd (res_ge (by omega)) hb'
    · rw [q1] at k2; cases k2
      exact ⟨o2, k1, q2, k3.rel ρ l w q3⟩
  · obtain ⟨b', h1, h2⟩ := comp_inv (by rw [hb]; simp)
    obtain ⟨c', h3, h4⟩ := comp_inv (by rw [hc]; simp)
    rw [h2] at hb
    rw [h4] at hc
    exact hh.inj b' c' l m (fun e => hne (h.inj b c b' h1 (e ▸ h3))) hb hc (h.wr h1 hw)
  · obtain ⟨h1, h2⟩ := h.glob g vs sz hg
    obtain ⟨l, h3, h4, h5⟩ := hh.glob g vs sz h2
    exact ⟨l, (comp_some h1 ρ).trans h3, h4, h5⟩
  · obtain ⟨c, h1, h2⟩ := comp_inv (by rw [hb]; simp)
    rw [h2] at hb
    have hd := hh.isdead c hb
    rcases h.obj b c h1 with ⟨k1, k2, k3⟩ | ⟨o2, o', k1, k2, k3⟩
    · have := h.id b k1
      rw [h1] at this; cases this
      exact k3.trans hd
    · rw [hd] at k2; cases k2
      rw [k1, k3.dead rfl]
theorem Gc.fr {N0 H H2 : AHeap} {φ : Nat → Option Nat} (h : Gc N0 φ H H2) (ρ : Ren) (w : World) : Fr N0.length ρ H w (comp φ ρ) H2 w :=
  ⟨rfl, rfl, rfl, Nat.le_refl _, fun _ _ _ => rfl, fun b hb => .inl (comp_some (h.id b hb) ρ), fun b l' hb hw => by
    obtain ⟨c, h1, h2⟩ := comp_inv (by rw [hb]; simp)
    rw [h2] at hb
    exact .inl ⟨c, l', hb, rfl, h.wr h1 hw⟩⟩
def DSub (φ : Nat → Option Nat) (H2 : AHeap) : List Nat → List Nat → Prop
  | [], [] => True
  | d2 :: l2, d :: l => φ d2 = some d ∧ H2[d2]? = some .mark ∧ DSub φ H2 l2 l
  | _, _ => False
theorem DSub.rel {φ : Nat → Option Nat} {H H2 : AHeap} {ρ : Ren} : ∀ {D2 D : List Nat} {ds : List Deferred}, DSub φ H2 D2 D → DRel ρ H D ds → DRel (comp φ ρ) H2 D2 ds
  | [], [], [], _, _ => trivial
  | [], [], _ :: _, _, h => h.elim
  | [], _ :: _, _, h, _ => h.elim
  | _ :: _, [], _, h, _ => h.elim
  | _ :: _, _ :: _, [], _, h => h.elim
  | d2 :: D2, d :: D, x :: ds, ⟨h1, h2, h3⟩, ⟨⟨l, k1, k2, k3⟩, k4⟩ => ⟨⟨l, (comp_some h1 ρ).trans k1, h2, k3⟩, DSub.rel h3 k4⟩
theorem Gc.wk {N0 : AHeap} {φ : Nat → Option Nat} {s s2 : ASt} (h : Gc N0 φ s.H s2.H) (hnt : s2.nt = s.nt) (hT : ∀ t, VSub φ (s2.T t) (s.T t)) (hD : DSub φ s2.H s2.D s.D) : Wk N0 s s2 :=
  fun ρ a w hs => ⟨comp φ ρ, ⟨h.heap hs.heap hs.entry, ⟨by rw [hnt]; exact hs.tmps.1, fun t => hT t ρ _ (hs.tmps.2 t)⟩, hD.rel hs.defers, h.len, hs.entry.of fun b hb => .inl (comp_some (h.id b hb) ρ)⟩, h.fr ρ w⟩
/-- Slots alone: some are known, of the others nothing. -/
def U (l : List (Nat × Value)) : Nat → Value
  | t => match l with
    | [] => junk
    | (k, v) :: l => cond (Nat.beq t k) v (U l t)
theorem U_nil (t : Nat) : U [] t = junk := rfl
theorem U_cons (k : Nat) (v : Value) (l : List (Nat × Value)) (t : Nat) : U ((k, v) :: l) t = cond (Nat.beq t k) v (U l t) := rfl
theorem Wk.slots {N0 : AHeap} {nt : Nat} {T T2 : Nat → Value} {D : List Nat} {H : AHeap} (h : ∀ t, T2 t = T t ∨ T2 t = junk) : Wk N0 ⟨nt, T, D, H⟩ ⟨nt, T2, D, H⟩ :=
  fun ρ a w hs => ⟨ρ, ⟨hs.heap, ⟨hs.tmps.1, fun t => by
    rcases h t with e | e
    · show VRel ρ (T2 t) _
      rw [e]; exact hs.tmps.2 t
    · show VRel ρ (T2 t) _
      rw [e]; exact .junk _ _⟩, hs.defers, hs.len, hs.entry⟩, .refl _ _ _ _⟩
def AgreesOn (T : Nat → Value) : List (Nat × Value) → Prop
  | [] => True
  | (k, v) :: l => T k = v ∧ AgreesOn T l
theorem U_agrees {T : Nat → Value} : ∀ {l : List (Nat × Value)}, AgreesOn T l → ∀ t, U l t = T t ∨ U l t = junk
  | [], _, t => .inr rfl
  | (k, v) :: l, ⟨h1, h2⟩, t => by
    rw [U_cons]
    cases e : Nat.beq t k with
    | true =>
      have := Nat.eq_of_beq_eq_true e
      subst this
      exact .inl h1.symm
    | false => exact U_agrees h2 t
/-- Of the slots, those of a list are kept. -/
theorem Wk.U {N0 : AHeap} {nt : Nat} {T : Nat → Value} {D : List Nat} {H : AHeap} (l : List (Nat × Value)) (h : AgreesOn T l) : Wk N0 ⟨nt, T, D, H⟩ ⟨nt, Go.Proofs.YtbjlabokijchpaaA.U l, D, H⟩ := Wk.slots (U_agrees h)
section
variable {F : Fence} {n : Nat} {P : Program} {N0 : AHeap} {Q : AEx → ASt → Prop} {s s2 : ASt}
theorem awp_wk {c : Code} (hw : Wk N0 s s2) (h : awp F n P N0 c Q s2) : awp F n P N0 c Q s := by
  intro ρ a w hs
  obtain ⟨ρ2, h1, h2⟩ := hw ρ a w hs
  exact wpIn_mono (h ρ2 a w h1) fun e a' w' hp => hp.from h2
theorem awp_post {c : Code} (h : awp F n P N0 c (fun e s' => ∃ s2, Wk N0 s' s2 ∧ Q e s2) s) : awp F n P N0 c Q s := by
  intro ρ a w hs
  refine wpIn_mono (h ρ a w hs) ?_
  rintro e a' w' ⟨x, s', ρ', rfl, ⟨s2, hw, h2⟩, h3, h4⟩
  obtain ⟨ρ2, h5, h6⟩ := hw ρ' a' w' h3
  exact ⟨x, s2, ρ2, rfl, h2, h5, h4.trans h6⟩
/-- A region; at its end the state may say less. -/
theorem awp_reg (hF : Wd F) {id : Nat} {l : List Oper} (h : aList F n P N0 l.toArray l (fun s' => ∃ s2, Wk N0 s' s2 ∧ Q .normal s2) s) : awp F n P N0 (.region id l.toArray false) Q s :=
  awp_post (awp_region hF h)
theorem awp_regd (hF : Wd F) (hm : P.follows .mixedOrders = true) {id : Nat} {l : List Oper} (tab : List Nat) (ht : tabOk l.toArray tab = true) (hs : ssaOk l.toArray tab = true)
    (h : dList F n P N0 l.toArray tab 0 l (fun s' => ∃ s2, Wk N0 s' s2 ∧ Q .normal s2) s) : awp F n P N0 (.region id l.toArray true) Q s :=
  awp_post (awp_region_any hF hm tab ht hs h)
end
end Go.Proofs.YtbjlabokijchpaaA
