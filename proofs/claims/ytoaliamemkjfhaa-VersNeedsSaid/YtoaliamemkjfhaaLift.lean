/-
  A round of a range over a function, walked by the plain words: what holds of a list of operations in a plain frame holds of it in a round's frame, where none of them is a defer statement. And the law of the statement, its elements told by their places.
-/
import Derived.RangeFuncNested
import Derived.RangeFuncBound
import Derived.RangeFuncCalls
import Derived.RangeFuncLeaves
import Derived.Shelf.Abstract
import Derived.WalkKit
import Derived.OwnWalkIn
import Derived.TacticsInMore
import Derived.LoopNIn
import Derived.LoopIn
namespace Go.Proofs.YtoaliamemkjfhaaLift
set_option linter.unusedVariables false
open Go Go.RowKit Go.Shelf

/-- The widest fence, in a round of loop l. -/
abbrev RW (l : Nat) : Fence := Fence.wide.inRound l

def noDefer (ops : List Oper) : Bool := ops.all fun o => match o.op with | .defer _ => false | _ => true
theorem noDefer_at {ops : List Oper} (h : noDefer ops = true) {o : Oper} (ho : o ∈ ops) (c : Call) : o.op ≠ .defer c := by
  intro e
  have := (List.all_eq_true.1 h) o ho
  rw [e] at this
  cases this

def NoOut (Q : Exit → Act → World → Prop) : Prop := ∀ a w, ¬ Q .outgrown a w
theorem NoOut.then {K : Act → World → Prop} {Q : Exit → Act → World → Prop} (h : NoOut Q) : NoOut (Exit.then K Q) := fun a w => h a w
theorem NoOut.inBlock {id : Nat} {Q : Exit → Act → World → Prop} (h : NoOut Q) : NoOut (Exit.inBlock id Q) := fun a w => h a w
theorem NoOut.out {Q : Exit → Act → World → Prop} (h : NoOut Q) : ¬ LetsOut Q := fun ⟨a, w, q⟩ => h a w q

variable {P : Program} {n l : Nat}
theorem op_round {o : Oper} {a : Act} {w : World} {K : Act → World → Prop} {Q : Exit → Act → World → Prop} (hd : ∀ c, o.op ≠ .defer c) (h : o.wp P a w K Q) : o.wpIn (RW l) n P a w K Q := by
  refine ⟨fun _ _ => trivial, ?_⟩
  rw [Oper.semAt_eq _ _ _ hd]
  simp only [Oper.wp] at h
  cases hr : (execOp a.eval o).run P w with
  | ok x w' =>
    rw [hr] at h
    cases x with
    | value v => exact h
    | skip => exact h
    | defer d => exact h
    | enter f args => exact ⟨fun hd => by simp [Fence.wide] at hd, CallsIn.inRound l (callsIn_wide.2 h)⟩
    | row row args =>
      refine ⟨fun hd => by simp [Fence.wide] at hd, fun c cs _ => ?_⟩
      obtain ⟨v, w1, hR, hs⟩ := h c cs
      exact ⟨v, w1, hR, stepsIn_wide.2 hs⟩
    | _ => exact h.elim
  | halt x w' =>
    rw [hr] at h
    cases x with
    | panic v => exact h
    | _ => exact h.elim

theorem list_round {ops : Array Oper} {Q : Exit → Act → World → Prop} (hQ : NoOut Q) : ∀ (lst : List Oper), noDefer lst = true → ∀ (a : Act) (w : World), wpList P ops Q lst a w → wpListIn (RW l) n P ops Q lst a w
  | [], _, _, _, h => h
  | o :: rest, hd, a, w, h => by
    have ih := list_round (ops := ops) hQ rest (by simp [noDefer] at hd ⊢; exact hd.2)
    unfold wpList at h
    unfold wpListIn
    split at h
    · rename_i hw
      rw [if_pos hw]
      rcases h with h | ⟨_, h⟩
      · exact op_round (noDefer_at hd List.mem_cons_self) (Oper.wp_mono (fun a w => ih a w) h)
      · exact absurd h hQ.out
    · rename_i hw
      rw [if_neg hw]
      exact ⟨fun _ _ => trivial, ih _ _ h⟩

theorem ops_round {ops : Array Oper} {Q : Exit → Act → World → Prop} (hQ : NoOut Q) (hd : noDefer ops.toList = true) : ∀ (lst : List Nat) (a : Act) (w : World), wpOps P ops Q lst a w → wpOpsIn (RW l) n P ops Q lst a w
  | [], _, _, h => h
  | i :: rest, a, w, h => by
    have ih := ops_round hQ hd rest
    simp only [wpOps] at h
    simp only [wpOpsIn]
    cases ho : ops[i]? with
    | none => rw [ho] at h; exact ih _ _ h
    | some o =>
      rw [ho] at h
      simp only [] at h ⊢
      split at h
      · rename_i hw
        rw [if_pos hw]
        rcases h with h | ⟨_, h⟩
        · refine op_round (noDefer_at hd ?_) (Oper.wp_mono (fun a w => ih a w) h)
          have := Array.mem_of_getElem? ho
          simpa using this
        · exact absurd h hQ.out
      · rename_i hw
        rw [if_neg hw]
        exact ⟨fun _ _ => trivial, ih _ _ h⟩

/-- A region that draws no order. -/
theorem round_region {id : Nat} {lst : List Oper} {Q : Exit → Act → World → Prop} {a : Act} {w : World} (hd : noDefer lst = true) (hQ : NoOut Q) (h : wpList P lst.toArray Q lst a w) :
    (Code.region id lst.toArray false).wpIn (RW l) n P Q a w := wpIn_region_lit (list_round hQ lst hd a w h)
/-- A region that draws its order. -/
theorem round_region_any {id : Nat} {ops : Array Oper} {Q : Exit → Act → World → Prop} {a : Act} {w : World} (hm : P.follows .mixedOrders = true) (hd : noDefer ops.toList = true) (hQ : NoOut Q)
    (h : wpAny P .any ops Q ops.size (Array.replicate ops.size false) a { w with drawn := w.drawn + 1 }) : (Code.region id ops true).wpIn (RW l) n P Q a w :=
  wpIn_region_draw fun t => by
    simp only [Region.schedule, hm, Bool.true_or, if_true]
    exact ops_round hQ hd _ _ _ (wpAny_sound ops.size t _ a _ h)

/-! ### The statement 'for .. := range f' -/
/-- All cells, and all that lies below B, lie as they lay. -/
structure Calm (B : Nat) (A A' : World) : Prop where
  os : A'.os = A.os
  tape : A'.tape = A.tape
  output : A'.output = A.output
  size : A.heap.size ≤ A'.heap.size
  block : ∀ k o, A.heap[k]? = some o → (o.isCells = true ∨ k < B) → A'.heap[k]? = some o
theorem Calm.of_below {B : Nat} {A A' : World} (h : Below A.heap.size A A') : Calm B A A' :=
  ⟨h.os, h.tape, h.output, h.size, fun k o ho _ => (h.block k (Array.getElem?_eq_some_iff.1 ho).1).trans ho⟩
theorem Calm.putObj {B : Nat} {A : World} {r : Nat} {o o' : Obj} (ho : A.heap[r]? = some o) (hc : o.isCells = false) (hB : B ≤ r) : Calm B A (A.putObj r o') :=
  ⟨rfl, rfl, rfl, by simp [World.putObj], fun k _ h1 h2 => by
    rw [World.putObj_heap_other]
    · exact h1
    · rintro rfl
      rw [ho] at h1
      cases h1
      rcases h2 with h2 | h2
      · rw [hc] at h2; cases h2
      · omega⟩
theorem Calm.below {B n₀ : Nat} {w A A' : World} (h : Calm B A A') (hb : Below n₀ w A) (hn : n₀ ≤ B) (hw : n₀ ≤ w.heap.size) : Below n₀ w A' :=
  ⟨h.os.trans hb.os, h.tape.trans hb.tape, h.output.trans hb.output, Nat.le_trans hb.size h.size, fun k hk => by
    have h1 := hb.block k hk
    have h2 : k < w.heap.size := by omega
    rw [Array.getElem?_eq_getElem h2] at h1 ⊢
    exact h.block k _ h1 (.inr (by omega))⟩
/-- What holds no cells, from B on, lies as it lay; nothing is gone. -/
def Leaves (B : Nat) (W W' : World) : Prop := W.heap.size ≤ W'.heap.size ∧ ∀ k o, B ≤ k → W.heap[k]? = some o → o.isCells = false → W'.heap[k]? = some o
theorem Leaves.refl (B : Nat) (W : World) : Leaves B W W := ⟨Nat.le_refl _, fun _ _ _ h _ => h⟩
theorem Leaves.trans {B : Nat} {W W1 W2 : World} (h : Leaves B W W1) (k : Leaves B W1 W2) : Leaves B W W2 := ⟨Nat.le_trans h.1 k.1, fun i o hi ho hc => k.2 i o hi (h.2 i o hi ho hc) hc⟩
theorem Leaves.of_below {B : Nat} {W W' : World} (h : Below W.heap.size W W') : Leaves B W W' := ⟨h.size, fun k o _ ho _ => (h.block k (Array.getElem?_eq_some_iff.1 ho).1).trans ho⟩
theorem Leaves.setCell {B : Nat} (W : World) (p : Addr) (v : Value) : Leaves B W (W.setCell p v) := by
  have h := KeepsOthers.setCell W p v
  exact ⟨h.size, fun k o _ ho hc => h.same k o ho hc⟩
theorem Leaves.grown {B : Nat} {W W' : World} {row : Option Nat} (h : W.grownBy W' row) (hs : W.heap.size ≤ W'.heap.size) (hr : ∀ k, row = some k → ∃ cs t fr, W.heap[k]? = some (.cells cs t fr)) : Leaves B W W' := by
  refine ⟨hs, fun k o _ ho hc => ?_⟩
  have hlt := (Array.getElem?_eq_some_iff.1 ho).1
  rw [h.block k hlt]
  · exact ho
  · intro e
    obtain ⟨cs, t, fr, hcs⟩ := hr k e.symm
    rw [hcs] at ho
    cases ho
    cases hc

/-- A call of yield answers a bool. -/
def YieldsB (P : Program) (y : Value) (args : Array Value) (W : World) (R : Bool → World → Prop) : Prop :=
  (∃ l, y = .func (.yield l) #[] #[] ∧ YieldAt Fence.wide 0 P l args W fun e W' => ∃ b, e = .returned (.bool b) ∧ R b W') ∨
  (∃ g caps, y = .func (.func g) #[] caps ∧ Enters P g ∧ Calls P g (args ++ caps) W fun e W' => ∃ b, e = .returned (.bool b) ∧ R b W')

/-- An iterator: the function g with what it captured; its elements are enc 0, .., enc (N - 1); what it reads lies in the blocks 'keep'. -/
def Iter (P : Program) (gf : Nat) (lb : Array Value) (enc : Nat → Array Value) (N : Nat) (keep : Nat → Prop) (w0 : World) : Prop :=
  ∀ (y : Value) (J Jx : Nat → World → Prop) (W : World), (∀ b, keep b → W.heap[b]? = w0.heap[b]?) →
    (∀ k A A', Below A.heap.size A A' → J k A → J k A') → (∀ k A A', Below A.heap.size A A' → Jx k A → Jx k A') →
    (∀ k W1, k < N → J k W1 → YieldsB P y (enc k) W1 fun b W' => (∀ c, keep c → W'.heap[c]? = W1.heap[c]?) ∧ W1.heap.size ≤ W'.heap.size ∧ (if b = true then J (k + 1) W' else Jx k W')) →
    J 0 W → Calls P gf (#[y] ++ lb) W fun e W' => e = .returned (.tuple #[]) ∧ (J N W' ∨ ∃ k, k < N ∧ Jx k W')

/-- How a round may be left. -/
def roundEnd (B : Nat) (keep : Nat → Prop) (I : World → Prop) (Ix : Code → World → Prop) (W : World) : Exit → Act → World → Prop
  | .normal, _, W' => Leaves B W W' ∧ (∀ c, keep c → W'.heap[c]? = W.heap[c]?) ∧ I W'
  | .ret, _, W' => Leaves B W W' ∧ (∀ c, keep c → W'.heap[c]? = W.heap[c]?) ∧ Ix .ret W'
  | .exit id, _, W' => Leaves B W W' ∧ (∀ c, keep c → W'.heap[c]? = W.heap[c]?) ∧ Ix (.exit id) W'
  | .goto t, _, W' => Leaves B W W' ∧ (∀ c, keep c → W'.heap[c]? = W.heap[c]?) ∧ Ix (.goto t) W'
  | .panic _, _, _ => False
  | .outgrown, _, _ => False
theorem NoOut.roundEnd {B : Nat} {keep : Nat → Prop} {I : World → Prop} {Ix : Code → World → Prop} {W : World} : NoOut (roundEnd B keep I Ix W) := fun _ _ h => h
theorem NoOut.false : NoOut (fun _ _ _ => False) := fun _ _ h => h

/-- The loop's record, as it is laid; where the rounds' deferred calls would lie. -/
theorem range_core {F : Fence} {fn : Nat} {ps : Array Tmp} {assign body : Code} {a : Act} {w W1 : World} {l D B : Nat} {rec : LoopState → Option Code → Loop} {Q : Exit → Act → World → Prop} {a' : Act}
    (hfn : F.fn fn) (hF : ∀ g args W R, Calls P g args W R → CallsIn F (n - 1) P g args W R)
    (hrec : rec = fun st pe => { state := st, pending := pe, fn, tmps := a.tmps, params := ps, assign, body, defers := D })
    (hl1 : W1.heap[l]? = some (.loop (rec .ready none))) (hBl : B ≤ l)
    {gf : Nat} {lb : Array Value} {enc : Nat → Array Value} {N : Nat} {keep : Nat → Prop} {w0 : World} (hseq : Iter P gf lb enc N keep w0)
    (hk1 : ∀ b, keep b → W1.heap[b]? = w0.heap[b]?) (hkl : ¬ keep l) (hps : ∀ k, (enc k).size = ps.size)
    (I : Nat → World → Prop) (Ix : Nat → Code → World → Prop) (hI : ∀ k A A', Calm B A A' → I k A → I k A') (hIx : ∀ k c A A', Calm B A A' → Ix k c A → Ix k c A')
    (X : World → Prop) (hX : ∀ A A', X A → (∀ k o, B ≤ k → k ≠ l → A.heap[k]? = some o → o.isCells = false → A'.heap[k]? = some o) → X A') (hX1 : X W1)
    (h0 : I 0 W1)
    (hround : ∀ (k : Nat) (W : World), (∃ r, W.heap[l]? = some (.loop r)) → k < N → I k W →
      assign.wpIn (RW l) 0 P (Exit.then (fun a₁ W₁ => ∀ W₂, Calm B W₁ W₂ → (∀ c, keep c → W₂.heap[c]? = W₁.heap[c]?) → W₁.heap[l]? = W.heap[l]? ∧ (∀ c, keep c → W₁.heap[c]? = W.heap[c]?) ∧ W.heap.size ≤ W₁.heap.size ∧ (∀ k o, B ≤ k → W.heap[k]? = some o → o.isCells = false → W₁.heap[k]? = some o) ∧
        body.wpIn (RW l) 0 P (roundEnd B keep (I (k + 1)) (Ix k) W₂) a₁ W₂) (fun _ _ _ => False))
        { tmps := (ps.zip (enc k)).foldl (fun t (p, v) => t.setIfInBounds p v) a.tmps, defers := [] } W)
    (hdone : ∀ W, I N W → X W → Q .normal a' W)
    (hstop : ∀ k c W, k < N → Ix k c W → X W → c.wpIn F n P Q a' W) :
    CallsIn F (n - 1) P gf (#[.func (.yield l) #[] #[]] ++ lb) W1 (rangePost F n P l Q a') := by
  have hXp : ∀ A o', X A → X (A.putObj l o') := fun A o' hx => hX A _ hx (fun k _ _ hk ho _ => (World.putObj_heap_other hk).trans ho)
  have hXb : ∀ A A', Below A.heap.size A A' → X A → X A' := fun A A' hb hx => hX A A' hx (fun k _ _ _ ho _ => (hb.block k (Array.getElem?_eq_some_iff.1 ho).1).trans ho)
  have hXl : ∀ A A', Leaves B A A' → X A → X A' := fun A A' hb hx => hX A A' hx (fun k o hB _ ho hc => hb.2 k o hB ho hc)
  have hat : ∀ (A A' : World) (o : Obj), Below A.heap.size A A' → A.heap[l]? = some o → A'.heap[l]? = some o := fun A A' o hb ho => (hb.block l (Array.getElem?_eq_some_iff.1 ho).1).trans ho
  refine hF _ _ _ _ ((hseq (.func (.yield l) #[] #[])
    (fun k W => I k W ∧ X W ∧ W.heap[l]? = some (.loop (rec .ready none)))
    (fun k W => ∃ c, Ix k c W ∧ X W ∧ W.heap[l]? = some (.loop (rec .done (some c))))
    W1 hk1 (fun k A A' hb ⟨h1, h2, h3⟩ => ⟨hI k A A' (.of_below hb) h1, hXb A A' hb h2, hat A A' _ hb h3⟩)
    (fun k A A' hb ⟨c, h1, h2, h3⟩ => ⟨c, hIx k c A A' (.of_below hb) h1, hXb A A' hb h2, hat A A' _ hb h3⟩)
    ?_ ⟨h0, hX1, hl1⟩).mono ?_)
  · rintro k W hk ⟨hi, hx, hl⟩
    have hlt : l < W.heap.size := (Array.getElem?_eq_some_iff.1 hl).1
    have hy := run_yield (P := P) (args := enc k) hl (by rw [hrec]; exact hps k)
    rw [hrec] at hy
    refine .inl ⟨l, rfl, fn, _, assign, body, hy, roundIn_of_wpIn trivial (wpIn_mono (hround k W ⟨_, hl⟩ hk hi) ?_)⟩
    rintro e a₁ W₁ hq
    cases e with
    | normal =>
      have hq1 : ∀ W₂, Calm B W₁ W₂ → (∀ c, keep c → W₂.heap[c]? = W₁.heap[c]?) → W₁.heap[l]? = W.heap[l]? ∧ (∀ c, keep c → W₁.heap[c]? = W.heap[c]?) ∧ W.heap.size ≤ W₁.heap.size ∧ (∀ k o, B ≤ k → W.heap[k]? = some o → o.isCells = false → W₁.heap[k]? = some o) ∧
        body.wpIn (RW l) 0 P (roundEnd B keep (I (k + 1)) (Ix k) W₂) a₁ W₂ := hq
      have hlW : W₁.heap[l]? = some (.loop (rec .ready none)) := by
        have := (hq1 W₁ ⟨rfl, rfl, rfl, Nat.le_refl _, fun _ _ h _ => h⟩ (fun _ _ => rfl)).1
        rw [this]; exact hl
      have hput : ∀ (A : World) (o' : Obj) (c : Nat), keep c → (A.putObj l o').heap[c]? = A.heap[c]? := fun A o' c hc => World.putObj_heap_other (fun e => hkl (e ▸ hc))
      obtain ⟨_, hkeep, hsz, hnc, hb⟩ := hq1 (W₁.putObj l (.loop { rec .ready none with state := .busy })) (.putObj hlW rfl hBl) (hput _ _)
      have hlt1 : l < W₁.heap.size := by omega
      have hl2 : (W₁.putObj l (.loop { rec .ready none with state := .busy })).heap[l]? = some (.loop { rec .ready none with state := .busy }) := World.putObj_heap_same hlt1
      refine ⟨_, run_beginRound hlW (by rw [hrec]), wpIn_mono hb ?_⟩
      have hx1 : X (W₁.putObj l (.loop { rec .ready none with state := .busy })) := hXp _ _ (hXl W W₁ ⟨hsz, hnc⟩ hx)
      have fin : ∀ (jump : Option Code) (W3 : World), Leaves B (W₁.putObj l (.loop { rec .ready none with state := .busy })) W3 → (∀ c, keep c → W3.heap[c]? = (W₁.putObj l (.loop { rec .ready none with state := .busy })).heap[c]?) →
          (Instr.endRound l jump).run P W3 = .ok (.bool jump.isNone) (W3.putObj l (.loop (rec (if jump.isNone then .ready else .done) jump))) ∧
          W3.heap[l]? = some (.loop { rec .ready none with state := .busy }) ∧
          (W3.putObj l (.loop (rec (if jump.isNone then .ready else .done) jump))).heap[l]? = some (.loop (rec (if jump.isNone then .ready else .done) jump)) ∧
          (∀ c, keep c → (W3.putObj l (.loop (rec (if jump.isNone then .ready else .done) jump))).heap[c]? = W.heap[c]?) ∧ W.heap.size ≤ (W3.putObj l (.loop (rec (if jump.isNone then .ready else .done) jump))).heap.size ∧
          X (W3.putObj l (.loop (rec (if jump.isNone then .ready else .done) jump))) := fun jump W3 hk3 hkp3 => by
        have hl3 := hk3.2 _ _ hBl hl2 rfl
        have := run_endRound (P := P) jump hl3
        rw [hrec] at this ⊢
        refine ⟨this, by rw [hrec] at hl3; exact hl3, World.putObj_heap_same (Array.getElem?_eq_some_iff.1 hl3).1, fun c hc => ?_, ?_, ?_⟩
        · rw [hput _ _ c hc, hkp3 c hc, hput _ _ c hc, hkeep c hc]
        · have h1 := hk3.1
          simp only [World.putObj, Array.size_setIfInBounds] at h1 ⊢
          omega
        · exact hXp _ _ (hXl _ _ hk3 hx1)
      rintro e a3 W3 hp
      cases e with
      | normal =>
        obtain ⟨hk3, hkp3, hi3⟩ := hp
        obtain ⟨hr, hl3, hl4, hc4, hs4, hx4⟩ := fin none W3 hk3 hkp3
        exact ⟨_, _, hr, _, rfl, hc4, hs4, by rw [if_pos (show (none : Option Code).isNone = true from rfl)]; exact ⟨hI _ _ _ (.putObj hl3 rfl hBl) hi3, hx4, hl4⟩⟩
      | ret =>
        obtain ⟨hk3, hkp3, hi3⟩ := hp
        obtain ⟨hr, hl3, hl4, hc4, hs4, hx4⟩ := fin (some .ret) W3 hk3 hkp3
        exact ⟨_, _, hr, _, rfl, hc4, hs4, by rw [if_neg (show ¬ (some (Code.ret : Code)).isNone = true by simp)]; exact ⟨.ret, hIx _ _ _ _ (.putObj hl3 rfl hBl) hi3, hx4, hl4⟩⟩
      | exit id =>
        obtain ⟨hk3, hkp3, hi3⟩ := hp
        obtain ⟨hr, hl3, hl4, hc4, hs4, hx4⟩ := fin (some (.exit id)) W3 hk3 hkp3
        exact ⟨_, _, hr, _, rfl, hc4, hs4, by rw [if_neg (show ¬ (some (Code.exit id : Code)).isNone = true by simp)]; exact ⟨.exit id, hIx _ _ _ _ (.putObj hl3 rfl hBl) hi3, hx4, hl4⟩⟩
      | goto t =>
        obtain ⟨hk3, hkp3, hi3⟩ := hp
        obtain ⟨hr, hl3, hl4, hc4, hs4, hx4⟩ := fin (some (.goto t)) W3 hk3 hkp3
        exact ⟨_, _, hr, _, rfl, hc4, hs4, by rw [if_neg (show ¬ (some (Code.goto t : Code)).isNone = true by simp)]; exact ⟨.goto t, hIx _ _ _ _ (.putObj hl3 rfl hBl) hi3, hx4, hl4⟩⟩
      | panic ch => exact hp.elim
      | outgrown => exact hp.elim
    | _ => exact hq.elim
  · rintro e W2 ⟨rfl, (⟨hi, hx, hl⟩ | ⟨k, hk, c, hi, hx, hl⟩)⟩
    · refine ⟨none, _, by have := run_endLoop (P := P) hl (by rw [hrec]; simp); rw [hrec] at this; exact this, ?_⟩
      exact hdone _ (hI _ _ _ (.putObj hl rfl hBl) hi) (hXp _ _ hx)
    · refine ⟨some c, _, by have := run_endLoop (P := P) hl (by rw [hrec]; simp); rw [hrec] at this; exact this, ?_⟩
      exact hstop k c _ hk (hIx _ _ _ _ (.putObj hl rfl hBl) hi) (hXp _ _ hx)

/-- What a round owes, in one form for the walk: its assignments, then its body. -/
def RoundOk (P : Program) (B l : Nat) (keep : Nat → Prop) (I' : World → Prop) (Ix : Code → World → Prop) (assign body : Code) (a : Act) (W : World) : Prop :=
  ∀ K : Act → World → Prop, (∀ a' W', Below W.heap.size W W' → (∀ W2, Calm B W' W2 → body.wpIn (RW l) 0 P (roundEnd B keep I' Ix W2) a' W2) → K a' W') → assign.wpIn (RW l) 0 P (Exit.then K (fun _ _ _ => False)) a W

/-- THE STATEMENT, where it stands in no round. -/
theorem wp_range {g : Operand} {ps : Array Tmp} {assign body : Code} {Q : Exit → Act → World → Prop} {a : Act} {w w0 : World} {gf : Nat} {lb : Array Value} {enc : Nat → Array Value} {N : Nat} {keep : Nat → Prop}
    (hg : a.eval g = .func (.func gf) #[] lb) (eg : Enters P gf) (hseq : Iter P gf lb enc N keep w0) (hk : ∀ b, keep b → b < w.heap.size ∧ w.heap[b]? = w0.heap[b]?) (hps : ∀ k, (enc k).size = ps.size)
    (I : Nat → World → Prop) (Ix : Nat → Code → World → Prop) (hI : ∀ k A A', Calm w.heap.size A A' → I k A → I k A') (hIx : ∀ k c A A', Calm w.heap.size A A' → Ix k c A → Ix k c A')
    (h0 : I 0 w)
    (hround : ∀ (l k : Nat) (W : World), w.heap.size ≤ l → (∃ r, W.heap[l]? = some (.loop r)) → k < N → I k W →
      RoundOk P w.heap.size l keep (I (k + 1)) (Ix k) assign body { tmps := (ps.zip (enc k)).foldl (fun t (p, v) => t.setIfInBounds p v) a.tmps, defers := [] } W)
    (hdone : ∀ (D : Nat) W, w.heap.size ≤ D → I N W → W.heap[D]? = some (.deferred (some [])) → Q .normal { a with defers := { target := .collected D, args := #[] } :: a.defers } W)
    (hstop : ∀ (D k : Nat) c W, w.heap.size ≤ D → k < N → Ix k c W → W.heap[D]? = some (.deferred (some [])) → c.wp P Q { a with defers := { target := .collected D, args := #[] } :: a.defers } W) :
    (Code.rangeFunc g ps assign body).wp P Q a w := by
  refine wpIn_wide.1 (wpIn_rangeFunc (n := 1) ?_)
  intro fn hfn
  obtain ⟨rec, hrec⟩ : ∃ rec : LoopState → Option Code → Loop, rec = fun st pe => { state := st, pending := pe, fn, tmps := a.tmps, params := ps, assign, body, defers := w.heap.size } := ⟨_, rfl⟩
  obtain ⟨W1, hW1⟩ : ∃ W1, (w.alloc (.deferred (some []))).alloc (.loop (rec .ready none)) = W1 := ⟨_, rfl⟩
  have hL1 : W1.heap[w.heap.size + 1]? = some (.loop (rec .ready none)) := by
    rw [← hW1]; have := World.alloc_heap_new (w.alloc (.deferred (some []))) (.loop (rec .ready none)); rwa [World.size_alloc] at this
  have hD1 : W1.heap[w.heap.size]? = some (.deferred (some [])) := by
    rw [← hW1]; exact (Below.heap_alloc _ _ _ (by simp)).trans (World.alloc_heap_new w _)
  have hb1 : Below w.heap.size w W1 := by
    rw [← hW1]; exact ((Below.refl _ w).alloc (Nat.le_refl _) _).alloc (by simp) _
  refine ⟨w.heap.size + 1, [{ target := .collected w.heap.size, args := #[] }], W1, { target := .fn (.func gf) lb, args := #[.func (.yield (w.heap.size + 1)) #[] #[]] }, W1, gf,
    #[.func (.yield (w.heap.size + 1)) #[] #[]] ++ lb, W1, ?_, ?_, fun _ _ => trivial, ?_, fun _ => by omega, ?_⟩
  · rw [← hW1, hrec]; exact run_enterLoop_outer _ _ _ _ _
  · simp only [resolve, hg]
    simp [go_sem]
  · simp [invoke, go_sem, eg _ _]
  · refine range_core (a := a) (w := w) (B := w.heap.size) (D := w.heap.size) hfn (fun g args W R h => callsIn_wide.2 h) hrec hL1 (by omega) hseq (fun b hb => (hb1.block b (hk b hb).1).trans (hk b hb).2) (fun hb => by have := (hk _ hb).1; omega) hps I Ix hI hIx
      (fun W => W.heap[w.heap.size]? = some (.deferred (some []))) (fun A A' hA h => h _ _ (Nat.le_refl _) (by omega) hA rfl) hD1 (hI 0 w W1 (.of_below hb1) h0) ?_ (fun W hi hx => hdone _ W (Nat.le_refl _) hi hx) (fun k c W hkN hi hx => wpIn_wide.2 (hstop _ k c W (Nat.le_refl _) hkN hi hx))
    intro k W hr hkN hi
    refine hround (w.heap.size + 1) k W (by omega) hr hkN hi _ ?_
    intro a' W' hb hbody W₂ hc hkeep
    have hlt : ∀ {c o}, W.heap[c]? = some o → W'.heap[c]? = some o := fun {c o} ho => (hb.block c (Array.getElem?_eq_some_iff.1 ho).1).trans ho
    obtain ⟨r, hr⟩ := hr
    have hlr := (Array.getElem?_eq_some_iff.1 hr).1
    exact ⟨by rw [hlt hr, hr], fun c hck => hb.block c (by have := (hk c hck).1; omega), hb.size, fun c o _ ho _ => hlt ho, hbody W₂ hc⟩

/-- THE STATEMENT, in a round of another one. -/
theorem wp_range_in {l₀ : Nat} {r₀ : Loop} {g : Operand} {ps : Array Tmp} {assign body : Code} {Q : Exit → Act → World → Prop} {a : Act} {w w0 : World} {gf : Nat} {lb : Array Value} {enc : Nat → Array Value} {N : Nat} {keep : Nat → Prop}
    (hr₀ : w.heap[l₀]? = some (.loop r₀))
    (hg : a.eval g = .func (.func gf) #[] lb) (eg : Enters P gf) (hseq : Iter P gf lb enc N keep w0) (hk : ∀ b, keep b → b < w.heap.size ∧ w.heap[b]? = w0.heap[b]?) (hps : ∀ k, (enc k).size = ps.size)
    (I : Nat → World → Prop) (Ix : Nat → Code → World → Prop) (hI : ∀ k A A', Calm w.heap.size A A' → I k A → I k A') (hIx : ∀ k c A A', Calm w.heap.size A A' → Ix k c A → Ix k c A')
    (h0 : I 0 w)
    (hround : ∀ (l k : Nat) (W : World), w.heap.size ≤ l → (∃ r, W.heap[l]? = some (.loop r)) → k < N → I k W →
      RoundOk P w.heap.size l keep (I (k + 1)) (Ix k) assign body { tmps := (ps.zip (enc k)).foldl (fun t (p, v) => t.setIfInBounds p v) a.tmps, defers := [] } W)
    (hdone : ∀ W, I N W → Q .normal a W)
    (hstop : ∀ (k : Nat) c W, k < N → Ix k c W → c.wpIn (RW l₀) n P Q a W) (hn : n = 0) :
    (Code.rangeFunc g ps assign body).wpIn (RW l₀) n P Q a w := by
  subst hn
  refine wpIn_rangeFunc ?_
  intro fn hfn
  obtain ⟨rec, hrec⟩ : ∃ rec : LoopState → Option Code → Loop, rec = fun st pe => { state := st, pending := pe, fn, tmps := a.tmps, params := ps, assign, body, defers := r₀.defers } := ⟨_, rfl⟩
  obtain ⟨W1, hW1⟩ : ∃ W1, w.alloc (.loop (rec .ready none)) = W1 := ⟨_, rfl⟩
  have hL1 : W1.heap[w.heap.size]? = some (.loop (rec .ready none)) := by
    rw [← hW1]; exact World.alloc_heap_new w _
  have hb1 : Below w.heap.size w W1 := by
    rw [← hW1]; exact (Below.refl _ w).alloc (Nat.le_refl _) _
  refine ⟨w.heap.size, [], W1, { target := .fn (.func gf) lb, args := #[.func (.yield w.heap.size) #[] #[]] }, W1, gf,
    #[.func (.yield w.heap.size) #[] #[]] ++ lb, W1, ?_, ?_, fun _ _ => trivial, ?_, fun h => by simp [Fence.wide] at h, ?_⟩
  · rw [← hW1, hrec]; exact run_enterLoop_inner hr₀ _ _ _ _ _
  · simp only [resolve, hg]
    simp [go_sem]
  · simp [invoke, go_sem, eg _ _]
  · refine range_core (a := a) (w := w) (B := w.heap.size) (D := r₀.defers) hfn (fun g args W R h => CallsIn.inRound l₀ (callsIn_wide.2 h)) hrec hL1 (Nat.le_refl _) hseq (fun b hb => (hb1.block b (hk b hb).1).trans (hk b hb).2) (fun hb => by have := (hk _ hb).1; omega) hps I Ix hI hIx
      (fun _ => True) (fun _ _ _ _ => trivial) trivial (hI 0 w W1 (.of_below hb1) h0) ?_ (fun W hi _ => hdone W hi) (fun k c W hkN hi _ => hstop k c W hkN hi)
    intro k W hr hkN hi
    refine hround w.heap.size k W (Nat.le_refl _) hr hkN hi _ ?_
    intro a' W' hb hbody W₂ hc hkeep
    have hlt : ∀ {c o}, W.heap[c]? = some o → W'.heap[c]? = some o := fun {c o} ho => (hb.block c (Array.getElem?_eq_some_iff.1 ho).1).trans ho
    obtain ⟨r, hr⟩ := hr
    have hlr := (Array.getElem?_eq_some_iff.1 hr).1
    exact ⟨by rw [hlt hr, hr], fun c hck => hb.block c (by have := (hk c hck).1; omega), hb.size, fun c o _ ho _ => hlt ho, hbody W₂ hc⟩
end Go.Proofs.YtoaliamemkjfhaaLift
