/-
  Code over abstract states: what it means, and the rules of control.
-/
import Derived.Test.YtbjlabokijchpaaA1
namespace Go.Proofs.YtbjlabokijchpaaA
set_option linter.unusedVariables false
open Go Go.RowKit

structure ASt where
  nt : Nat
  T : Nat → Value
  D : List Nat
  H : AHeap
def DRel (ρ : Ren) (H : AHeap) : List Nat → List Deferred → Prop
  | [], [] => True
  | d :: ds, x :: xs => (∃ l, ρ d = .at l ∧ H[d]? = some .mark ∧ x = { target := .collected l.blk, args := #[] }) ∧ DRel ρ H ds xs
  | _, _ => False
/-- How the heap stood when the function began: its values name blocks of it alone. -/
def Entry (N0 : AHeap) (ρ : Ren) : Prop := ∃ ρ0 w0, HRel ρ0 N0 w0 ∧ ∀ b, b < N0.length → (ρ b ≠ .none → ρ0 b ≠ .none) ∧ ∀ l, ρ b = .at l → ρ0 b ≠ .null
theorem Entry.of {N0 : AHeap} {ρ ρ' : Ren} (h : Entry N0 ρ) (k : ∀ b, b < N0.length → ρ' b = ρ b ∨ (ρ' b = .dead ∧ ρ b ≠ .none)) : Entry N0 ρ' := by
  obtain ⟨ρ0, w0, h1, h2⟩ := h
  refine ⟨ρ0, w0, h1, fun b hb => ?_⟩
  rcases k b hb with e | ⟨e', e⟩
  · rw [e]; exact h2 b hb
  · exact ⟨fun _ => (h2 b hb).1 e, fun l hl => by rw [e'] at hl; cases hl⟩
structure SRel (N0 : AHeap) (ρ : Ren) (s : ASt) (a : Act) (w : World) : Prop where
  heap : HRel ρ s.H w
  tmps : TRel ρ s.nt s.T a.tmps
  defers : DRel ρ s.H s.D a.defers
  len : N0.length ≤ s.H.length
  entry : Entry N0 ρ
theorem SRel.drawn {N0 : AHeap} {ρ : Ren} {s : ASt} {a : Act} {w : World} (h : SRel N0 ρ s a w) (k : Nat) : SRel N0 ρ s a { w with drawn := k } := ⟨h.heap.drawn k, h.tmps, h.defers, h.len, h.entry⟩

def ASt.put (s : ASt) (dst : Option Tmp) (v : Value) : ASt :=
  match dst with
  | some d => { s with T := upd s.T d v }
  | none => s
def dOk (nt : Nat) : Option Tmp → Prop
  | some d => d < nt
  | none => True
inductive AEx where
  | normal
  | exit (id : Nat)
  | goto (l : Nat)
  | ret
def AEx.ex : AEx → Exit
  | .normal => .normal
  | .exit id => .exit id
  | .goto l => .goto l
  | .ret => .ret
def AEx.then (next : ASt → Prop) (Q : AEx → ASt → Prop) : AEx → ASt → Prop
  | .normal, s => next s
  | e, s => Q e s
def AEx.inBlock (id : Nat) (Q : AEx → ASt → Prop) : AEx → ASt → Prop
  | .exit id', s => if id' = id then Q .normal s else Q (.exit id') s
  | e, s => Q e s
def APost (N0 : AHeap) (Q : AEx → ASt → Prop) (ρ : Ren) (H : AHeap) (w : World) : Exit → Act → World → Prop :=
  fun e a' w' => ∃ x s' ρ', e = AEx.ex x ∧ Q x s' ∧ SRel N0 ρ' s' a' w' ∧ Fr N0.length ρ H w ρ' s'.H w'
def awp (F : Fence) (n : Nat) (P : Program) (N0 : AHeap) (c : Code) (Q : AEx → ASt → Prop) (s : ASt) : Prop :=
  ∀ ρ a w, SRel N0 ρ s a w → c.wpIn F n P (APost N0 Q ρ s.H w) a w

section
variable {F : Fence} {n : Nat} {P : Program} {N0 : AHeap} {Q Q' : AEx → ASt → Prop} {s : ASt}
theorem APost.mono {ρ : Ren} {H : AHeap} {w : World} (hq : ∀ e s, Q e s → Q' e s) {e : Exit} {a' : Act} {w' : World} (h : APost N0 Q ρ H w e a' w') : APost N0 Q' ρ H w e a' w' := by
  obtain ⟨x, s', ρ', h1, h2, h3, h4⟩ := h
  exact ⟨x, s', ρ', h1, hq _ _ h2, h3, h4⟩
theorem APost.from {ρ ρ1 : Ren} {H H1 : AHeap} {w w1 : World} (hf : Fr N0.length ρ H w ρ1 H1 w1) {e : Exit} {a' : Act} {w' : World} (h : APost N0 Q ρ1 H1 w1 e a' w') : APost N0 Q ρ H w e a' w' := by
  obtain ⟨x, s', ρ', h1, h2, h3, h4⟩ := h
  exact ⟨x, s', ρ', h1, h2, h3, hf.trans h4⟩
theorem awp_mono {c : Code} (h : awp F n P N0 c Q s) (hq : ∀ e s, Q e s → Q' e s) : awp F n P N0 c Q' s :=
  fun ρ a w hs => wpIn_mono (h ρ a w hs) fun e a' w' hp => hp.mono hq
theorem awp_skip (h : Q .normal s) : awp F n P N0 .skip Q s := fun ρ a w hs => wpIn_skip ⟨.normal, s, ρ, rfl, h, hs, .refl _ _ _ _⟩
theorem awp_label {l : Nat} (h : Q .normal s) : awp F n P N0 (.label l) Q s := fun ρ a w hs => wpIn_label ⟨.normal, s, ρ, rfl, h, hs, .refl _ _ _ _⟩
theorem awp_exit {id : Nat} (h : Q (.exit id) s) : awp F n P N0 (.exit id) Q s := fun ρ a w hs => wpIn_exit ⟨.exit id, s, ρ, rfl, h, hs, .refl _ _ _ _⟩
theorem awp_goto {l : Nat} (h : Q (.goto l) s) : awp F n P N0 (.goto l) Q s := fun ρ a w hs => wpIn_goto ⟨.goto l, s, ρ, rfl, h, hs, .refl _ _ _ _⟩
theorem awp_ret (h : Q .ret s) : awp F n P N0 .ret Q s := fun ρ a w hs => wpIn_ret ⟨.ret, s, ρ, rfl, h, hs, .refl _ _ _ _⟩
theorem awp_seq {x y : Code} (h : awp F n P N0 x (AEx.then (awp F n P N0 y Q) Q) s) : awp F n P N0 (.seq x y) Q s := by
  intro ρ a w hs
  refine wpIn_seq (wpIn_mono (h ρ a w hs) ?_)
  rintro e a' w' ⟨x, s', ρ', rfl, h2, h3, h4⟩
  cases x with
  | normal => exact wpIn_mono (h2 ρ' a' w' h3) fun e a w hp => hp.from h4
  | exit id => exact ⟨_, s', ρ', rfl, h2, h3, h4⟩
  | goto l => exact ⟨_, s', ρ', rfl, h2, h3, h4⟩
  | ret => exact ⟨_, s', ρ', rfl, h2, h3, h4⟩
theorem awp_block {id : Nat} {c : Code} (h : awp F n P N0 c (AEx.inBlock id Q) s) : awp F n P N0 (.block id c) Q s := by
  intro ρ a w hs
  refine wpIn_block (wpIn_mono (h ρ a w hs) ?_)
  rintro e a' w' ⟨x, s', ρ', rfl, h2, h3, h4⟩
  cases x with
  | normal => exact ⟨_, s', ρ', rfl, h2, h3, h4⟩
  | exit id' =>
    by_cases hid : id' = id
    · simp only [AEx.inBlock, hid, if_true] at h2
      simp only [AEx.ex, Exit.inBlock, hid, if_true]
      exact ⟨.normal, s', ρ', rfl, h2, h3, h4⟩
    · simp only [AEx.inBlock, hid, if_false] at h2
      simp only [AEx.ex, Exit.inBlock, hid, if_false]
      exact ⟨.exit id', s', ρ', rfl, h2, h3, h4⟩
  | goto l => exact ⟨_, s', ρ', rfl, h2, h3, h4⟩
  | ret => exact ⟨_, s', ρ', rfl, h2, h3, h4⟩
/-- The value of an operand. -/
def ev (T : Nat → Value) : Operand → Value
  | .tmp t => T t
  | .const v => v
  | .global g => .pointer (some ⟨g, 0, none⟩)
  | .func f => .func (.func f) #[] #[]
theorem eval_tmp (a : Act) (t : Tmp) : a.eval (.tmp t) = a.tmps.getD t undef := rfl
theorem vrel_bool {ρ : Ren} {b : Bool} {v : Value} (h : VRel ρ (.bool b) v) : v = .bool b := by
  cases h with
  | bool => rfl
  | dead h => exact h.elim
theorem vrel_undef {ρ : Ren} {v : Value} (h : VRel ρ undef v) : v = undef := by
  cases h with
  | tuple h1 h2 =>
    rename_i vs'
    have : vs' = #[] := by
      apply Array.eq_empty_of_size_eq_zero
      simpa using h1.symm
    rw [this]; rfl
  | dead h => exact h.elim
theorem awp_cond {t : Tmp} {x y : Code} {b : Bool} (hc : s.T t = .bool b) (h : awp F n P N0 (if b then x else y) Q s) : awp F n P N0 (.cond (.tmp t) x y) Q s := by
  intro ρ a w hs
  have h1 := hs.tmps.2 t
  rw [hc] at h1
  exact wpIn_cond (t := b) (by rw [eval_tmp]; exact vrel_bool h1) (h ρ a w hs)
theorem awp_cond_split {t : Tmp} {x y : Code} {b : Bool} (hc : s.T t = .bool b) (h1 : b = true → awp F n P N0 x Q s) (h2 : b = false → awp F n P N0 y Q s) : awp F n P N0 (.cond (.tmp t) x y) Q s := by
  refine awp_cond hc ?_
  cases b
  · exact h2 rfl
  · exact h1 rfl
theorem awp_cond_const {x y : Code} {b : Bool} (h : awp F n P N0 (if b then x else y) Q s) : awp F n P N0 (.cond (.const (.bool b)) x y) Q s :=
  fun ρ a w hs => wpIn_cond (t := b) rfl (h ρ a w hs)
theorem exists_least (p : Nat → Prop) (h : ∃ n, p n) : ∃ n, p n ∧ ∀ m, p m → n ≤ m := by
  obtain ⟨n, hn⟩ := h
  induction n using Nat.strongRecOn with
  | _ n ih =>
    by_cases h : ∃ m, m < n ∧ p m
    · obtain ⟨m, h1, h2⟩ := h
      exact ih m h1 h2
    · exact ⟨n, hn, fun m hm => Classical.byContradiction fun hlt => h ⟨m, by omega, hm⟩⟩
/-- A loop: a family of states, and a measure. -/
theorem awp_loop {α : Type} {c : Code} (I : α → ASt → Prop) (μ : α → Nat) {x0 : α} (h0 : I x0 s)
    (round : ∀ x s, I x s → awp F n P N0 c (AEx.then (fun s' => ∃ y, I y s' ∧ μ y < μ x) Q) s) : awp F n P N0 (.loop c) Q s := by
  intro ρ a w hs
  let J : Nat → Act → World → Prop := fun m a' w' => ∃ x s' ρ', μ x = m ∧ I x s' ∧ SRel N0 ρ' s' a' w' ∧ Fr N0.length ρ s.H w ρ' s'.H w'
  have hle : ∀ a' w', (∃ m, J m a' w') → ∃ m, J m a' w' ∧ ∀ k, J k a' w' → m ≤ k := fun a' w' h => exists_least _ h
  let M : Act → World → Nat := fun a' w' => open Classical in if h : ∃ m, J m a' w' then Classical.choose (hle a' w' h) else 0
  have hM : ∀ a' w', (∃ m, J m a' w') → J (M a' w') a' w' ∧ ∀ k, J k a' w' → M a' w' ≤ k := fun a' w' h => by
    have := Classical.choose_spec (hle a' w' h)
    simp only [M, dif_pos h]
    exact this
  refine wpIn_loop (fun a' w' => ∃ m, J m a' w') M ⟨μ x0, x0, s, ρ, rfl, h0, hs, .refl _ _ _ _⟩ ?_
  intro a' w' hI
  obtain ⟨x, s', ρ', hx, hxI, hs', hf⟩ := (hM a' w' hI).1
  refine wpIn_mono (round x s' hxI ρ' a' w' hs') ?_
  rintro e a2 w2 ⟨y, s2, ρ2, rfl, h2, h3, h4⟩
  cases y with
  | normal =>
    obtain ⟨y, hy, hlt⟩ := h2
    have hJ : J (μ y) a2 w2 := ⟨y, s2, ρ2, rfl, hy, h3, hf.trans h4⟩
    refine ⟨⟨_, hJ⟩, ?_⟩
    have := (hM a2 w2 ⟨_, hJ⟩).2 _ hJ
    omega
  | exit id => exact ⟨_, s2, ρ2, rfl, h2, h3, hf.trans h4⟩
  | goto l => exact ⟨_, s2, ρ2, rfl, h2, h3, hf.trans h4⟩
  | ret => exact ⟨_, s2, ρ2, rfl, h2, h3, hf.trans h4⟩

/-! ### Operations -/
def Wd (F : Fence) : Prop := F = Fence.wide ∨ ∃ l, F = Fence.wide.inRound l
theorem Wd.fn (hF : Wd F) (f : FuncId) : F.fn f := by rcases hF with rfl | ⟨l, rfl⟩ <;> trivial
theorem Wd.depth (hF : Wd F) : F.depth = none := by rcases hF with rfl | ⟨l, rfl⟩ <;> rfl
theorem Wd.calls (hF : Wd F) {f : FuncId} {args : Array Value} {w : World} {R : Ending → World → Prop} (h : Calls P f args w R) : CallsIn F n P f args w R := by
  rcases hF with rfl | ⟨l, rfl⟩
  · exact callsIn_wide.2 h
  · exact CallsIn.inRound l (callsIn_wide.2 h)
/-- What an operation comes to. -/
def OpOk (F : Fence) (n : Nat) (P : Program) (N0 : AHeap) (o : Oper) (K : ASt → Prop) (s : ASt) : Prop :=
  ∀ ρ a w, SRel N0 ρ s a w → o.wpIn F n P a w (fun a' w' => ∃ s' ρ', K s' ∧ SRel N0 ρ' s' a' w' ∧ Fr N0.length ρ s.H w ρ' s'.H w') (fun _ _ _ => False)
def gval (ops : Array Oper) (T : Nat → Value) (j : Nat) : Value :=
  match ops[j]? with
  | some o => (match o.dst with | some d => T d | none => undef)
  | none => undef
def GYes (ops : Array Oper) (o : Oper) (T : Nat → Value) : Prop := ∀ j want, o.guard = some (j, want) → gval ops T j = .bool want
def GNo (ops : Array Oper) (o : Oper) (T : Nat → Value) : Prop := ∃ j want, o.guard = some (j, want) ∧ (gval ops T j = .bool (!want) ∨ gval ops T j = undef)
def aStep (F : Fence) (n : Nat) (P : Program) (N0 : AHeap) (ops : Array Oper) (o : Oper) (K : ASt → Prop) (s : ASt) : Prop :=
  (GYes ops o s.T ∧ OpOk F n P N0 o K s) ∨ (GNo ops o s.T ∧ dOk s.nt o.dst ∧ K (s.put o.dst undef))
def aList (F : Fence) (n : Nat) (P : Program) (N0 : AHeap) (ops : Array Oper) : List Oper → (ASt → Prop) → ASt → Prop
  | [], K, s => K s
  | o :: rest, K, s => aStep F n P N0 ops o (aList F n P N0 ops rest K) s

theorem yielded_rel {ρ : Ren} {nt : Nat} {T : Nat → Value} {a : Act} (h : TRel ρ nt T a.tmps) (ops : Array Oper) (j : Nat) :
    (∀ b, gval ops T j = .bool b → yielded ops a.tmps j = some b) ∧ (gval ops T j = undef → yielded ops a.tmps j = none) := by
  unfold gval yielded
  cases ho : ops[j]? with
  | none => simp [undef]
  | some o =>
    cases hd : o.dst with
    | none => simp [hd, undef]
    | some d =>
      have h1 := h.2 d
      simp only [hd, Option.bind_some]
      refine ⟨fun b hb => ?_, fun hb => ?_⟩
      · rw [hb] at h1
        have h2 := vrel_bool h1
        rw [Array.getD_eq_getD_getElem?] at h2
        cases h3 : a.tmps[d]? with
        | none => rw [h3] at h2; cases h2
        | some v => rw [h3] at h2; simp only [Option.getD_some] at h2; rw [h2]
      · rw [hb] at h1
        have h2 := vrel_undef h1
        rw [Array.getD_eq_getD_getElem?] at h2
        cases h3 : a.tmps[d]? with
        | none => rfl
        | some v => rw [h3] at h2; simp only [Option.getD_some] at h2; rw [h2]; rfl
theorem wanted_yes {ρ : Ren} {nt : Nat} {T : Nat → Value} {a : Act} (h : TRel ρ nt T a.tmps) {ops : Array Oper} {o : Oper} (hg : GYes ops o T) : Region.wanted o (yielded ops a.tmps) = true := by
  unfold Region.wanted
  cases hgd : o.guard with
  | none => rfl
  | some p =>
    obtain ⟨j, want⟩ := p
    simp only [(yielded_rel h ops j).1 want (hg j want hgd)]
    simp
theorem wanted_no {ρ : Ren} {nt : Nat} {T : Nat → Value} {a : Act} (h : TRel ρ nt T a.tmps) {ops : Array Oper} {o : Oper} (hg : GNo ops o T) : Region.wanted o (yielded ops a.tmps) = false := by
  obtain ⟨j, want, hgd, h1⟩ := hg
  unfold Region.wanted
  rw [hgd]
  rcases h1 with h1 | h1
  · simp only [(yielded_rel h ops j).1 _ h1]
    cases want <;> rfl
  · simp only [(yielded_rel h ops j).2 h1]
    cases want <;> rfl
theorem SRel.put {ρ : Ren} {a : Act} {w : World} (h : SRel N0 ρ s a w) {dst : Option Tmp} (hd : dOk s.nt dst) {v v' : Value} (hv : VRel ρ v v') : SRel N0 ρ (s.put dst v) (a.put dst v') w := by
  cases dst with
  | none => exact h
  | some d => exact ⟨h.heap, h.tmps.upd hd hv, h.defers, h.len, h.entry⟩
theorem ASt.put_H (s : ASt) (dst : Option Tmp) (v : Value) : (s.put dst v).H = s.H := by cases dst <;> rfl
theorem aList_sound (hF : Wd F) {ops : Array Oper} {K : ASt → Prop} {R : Exit → Act → World → Prop} : ∀ (l : List Oper) (s : ASt) (ρ : Ren) (a : Act) (w : World), aList F n P N0 ops l K s → SRel N0 ρ s a w →
    (hR : ∀ s' ρ' a' w', K s' → SRel N0 ρ' s' a' w' → Fr N0.length ρ s.H w ρ' s'.H w' → R .normal a' w') → (hRx : ∀ e a w, e ≠ .normal → False → R e a w) →
    wpListIn F n P ops R l a w
  | [], s, ρ, a, w, h, hs, hR, _ => hR s ρ a w h hs (.refl _ _ _ _)
  | o :: rest, s, ρ, a, w, h, hs, hR, hRx => by
    unfold wpListIn
    rcases h with ⟨hg, h⟩ | ⟨hg, hd, h⟩
    · rw [if_pos (wanted_yes hs.tmps hg)]
      have := h ρ a w hs
      have h2 := Oper.wpIn_mono (K' := wpListIn F n P ops R rest) (fun a' w' ⟨s', ρ', hk, hs', hf⟩ => aList_sound hF rest s' ρ' a' w' hk hs' (fun s2 ρ2 a2 w2 k2 hs2 hf2 => hR s2 ρ2 a2 w2 k2 hs2 (hf.trans hf2)) hRx) this
      unfold Oper.wpIn at h2 ⊢
      refine ⟨h2.1, ?_⟩
      have h3 := h2.2
      generalize (o.semAt F.round a.eval).run P w = r at h3 ⊢
      cases r with
      | ok x w' =>
        cases x <;> simp only [Oper.uponIn] at h3 ⊢ <;>
          first
            | exact h3
            | exact ⟨h3.1, CallsIn.mono h3.2 (fun e w'' he => by cases e <;> first | exact he | exact he.elim | exact (by obtain ⟨_, _, hf⟩ := he; exact hf.elim))⟩
            | exact ⟨h3.1, RoundIn.mono h3.2 (fun e w'' he => by cases e <;> first | exact he | exact he.elim | exact (by obtain ⟨_, _, hf⟩ := he; exact hf.elim))⟩
      | halt x w' => cases x <;> simp only [Oper.uponIn] at h3 ⊢ <;> exact h3.elim
    · rw [if_neg (by rw [wanted_no hs.tmps hg]; simp)]
      refine ⟨fun f _ => hF.fn f, ?_⟩
      refine aList_sound hF rest _ ρ _ w h (hs.put hd (.undef ρ)) (fun s2 ρ2 a2 w2 k2 hs2 hf2 => hR s2 ρ2 a2 w2 k2 hs2 ?_) hRx
      rwa [ASt.put_H] at hf2
/-- A region in the order of its text. -/
theorem awp_region (hF : Wd F) {id : Nat} {l : List Oper} (h : aList F n P N0 l.toArray l (Q .normal) s) : awp F n P N0 (.region id l.toArray false) Q s := by
  intro ρ a w hs
  refine wpIn_region_lit (aList_sound hF l s ρ a w h hs (fun s' ρ' a' w' hk hs' hf => ⟨.normal, s', ρ', rfl, hk, hs', hf⟩) (fun _ _ _ _ h => h.elim))
end
end Go.Proofs.YtbjlabokijchpaaA
