/-
  The statement 'for .. := range f', f an iterator that writes cells of its own.
-/
import Derived.Test.YtoaliamemkjfhaaLiftIter
namespace Go.Proofs.YtoaliamemkjfhaaLift
set_option linter.unusedVariables false
open Go Go.RowKit Go.Shelf
variable {P : Program} {n l : Nat}
/-- An iterator that writes its own cells (the blocks 'own', of which 'keep' are, too): whoever ranges over it says that they don't matter. -/
def Iter2 (P : Program) (gf : Nat) (lb : Array Value) (enc : Nat → Array Value) (N : Nat) (keep own : Nat → Prop) (w0 : World) : Prop :=
  ∀ (y : Value) (J Jx : Nat → World → Prop) (W : World), (∀ b, keep b → W.heap[b]? = w0.heap[b]?) →
    (∀ k A A', Below A.heap.size A A' → J k A → J k A') → (∀ k A A', Below A.heap.size A A' → Jx k A → Jx k A') →
    (∀ k A b v, own b → J k A → J k (A.setCell ⟨b, 0, none⟩ v)) →
    (∀ k W1, k < N → J k W1 → YieldsB P y (enc k) W1 fun b W' => (∀ c, keep c → W'.heap[c]? = W1.heap[c]?) ∧ W1.heap.size ≤ W'.heap.size ∧ (if b = true then J (k + 1) W' else Jx k W')) →
    J 0 W → Calls P gf (#[y] ++ lb) W fun e W' => e = .returned (.tuple #[]) ∧ (J N W' ∨ ∃ k, k < N ∧ Jx k W')
/-- The loop's record, as it is laid; where the rounds' deferred calls would lie. -/
theorem range_core2 {F : Fence} {fn : Nat} {ps : Array Tmp} {assign body : Code} {a : Act} {w W1 : World} {l D B : Nat} {rec : LoopState → Option Code → Loop} {Q : Exit → Act → World → Prop} {a' : Act}
    (hfn : F.fn fn) (hF : ∀ g args W R, Calls P g args W R → CallsIn F (n - 1) P g args W R)
    (hrec : rec = fun st pe => { state := st, pending := pe, fn, tmps := a.tmps, params := ps, assign, body, defers := D })
    (hl1 : W1.heap[l]? = some (.loop (rec .ready none))) (hBl : B ≤ l)
    {gf : Nat} {lb : Array Value} {enc : Nat → Array Value} {N : Nat} {keep own : Nat → Prop} {w0 : World} (hseq : Iter2 P gf lb enc N keep own w0)
    (hk1 : ∀ b, keep b → W1.heap[b]? = w0.heap[b]?) (hkl : ¬ keep l) (hps : ∀ k, (enc k).size = ps.size)
    (I : Nat → World → Prop) (Ix : Nat → Code → World → Prop) (hI : ∀ k A A', Calm B A A' → I k A → I k A') (hIx : ∀ k c A A', Calm B A A' → Ix k c A → Ix k c A')
    (hIo : ∀ k A b v, own b → I k A → I k (A.setCell ⟨b, 0, none⟩ v))
    (X : World → Prop) (hX : ∀ A A', X A → (∀ k o, B ≤ k → k ≠ l → A.heap[k]? = some o → o.isCells = false → A'.heap[k]? = some o) → X A') (hX1 : X W1)
    (h0 : I 0 W1)
    (hround : ∀ (k : Nat) (W : World), (∃ r, W.heap[l]? = some (.loop r)) → k < N → I k W →
      assign.wpIn (RW l) 0 P (Exit.then (fun a₁ W₁ => ∀ W₂, Calm B W₁ W₂ → (∀ c, keep c → W₂.heap[c]? = W₁.heap[c]?) → W₁.heap[l]? = W.heap[l]? ∧ (∀ c, keep c → W₁.heap[c]? = W.heap[c]?) ∧ W.heap.size ≤ W₁.heap.size ∧ (∀ k o, B ≤ k → W.heap[k]? = some o → o.isCells = false → W₁.heap[k]? = some o) ∧
        body.wpIn (RW l) 0 P (roundEnd B keep (I (k + 1)) (Ix k) W₂) a₁ W₂) (fun _ _ _ => False))
        { tmps := (ps.zip (enc k)).foldl (fun t (p, v) => t.setIfInBounds p v) a.tmps, defers := [] } W)
    (hdone : ∀ W, I N W → X W → Q .normal a' W)
    (hstop : ∀ k c W, k < N → Ix k c W → X W → c.wpIn F n P Q a' W) :
    CallsIn F (n - 1) P gf (#[.func (.yield l) #[] #[]] ++ lb) W1 (rangePost F n P l Q a') := by
  have hXp : ∀ A o', X A → X (A.putObj l o') := fun A o' hx => hX A _ hx (fun k _ _ hk ho _ => (World.putObj_heap_other hk).trans ho)
  have hXb : ∀ A A', Below A.heap.size A A' → X A → X A' := fun A A' hb hx => hX A A' hx (fun k _ _ _ ho _ => (hb.block k (Array.getElem?_eq_some_iff.1 ho).1).trans ho)
  have hXl : ∀ A A', Leaves B A A' → X A → X A' := fun A A' hb hx => hX A A' hx (fun k o hB _ ho hc => hb.2 k o hB ho hc)
  have hat : ∀ (A A' : World) (o : Obj), Below A.heap.size A A' → A.heap[l]? = some o → A'.heap[l]? = some o := fun A A' o hb ho => (hb.block l (Array.getElem?_eq_some_iff.1 ho).1).trans ho
  refine hF _ _ _ _ ((hseq (.func (.yield l) #[] #[])
    (fun k W => I k W ∧ X W ∧ W.heap[l]? = some (.loop (rec .ready none)))
    (fun k W => ∃ c, Ix k c W ∧ X W ∧ W.heap[l]? = some (.loop (rec .done (some c))))
    W1 hk1 (fun k A A' hb ⟨h1, h2, h3⟩ => ⟨hI k A A' (.of_below hb) h1, hXb A A' hb h2, hat A A' _ hb h3⟩)
    (fun k A A' hb ⟨c, h1, h2, h3⟩ => ⟨c, hIx k c A A' (.of_below hb) h1, hXb A A' hb h2, hat A A' _ hb h3⟩)
    (fun k A b v hb ⟨h1, h2, h3⟩ => ⟨hIo k A b v hb h1, hXl _ _ (.setCell _ _ _) h2, (KeepsOthers.setCell A ⟨b, 0, none⟩ v).same l _ h3 rfl⟩)
    ?_ ⟨h0, hX1, hl1⟩).mono ?_)
  · rintro k W hk ⟨hi, hx, hl⟩
    have hlt : l < W.heap.size := (Array.getElem?_eq_some_iff.1 hl).1
    have hy := run_yield (P := P) (args := enc k) hl (by rw [hrec]; exact hps k)
    rw [hrec] at hy
    refine .inl ⟨l, rfl, fn, _, assign, body, hy, roundIn_of_wpIn trivial (wpIn_mono (hround k W ⟨_, hl⟩ hk hi) ?_)⟩
    rintro e a₁ W₁ hq
    cases e with
    | normal =>
      have hq1 : ∀ W₂, Calm B W₁ W₂ → (∀ c, keep c → W₂.heap[c]? = W₁.heap[c]?) → W₁.heap[l]? = W.heap[l]? ∧ (∀ c, keep c → W₁.heap[c]? = W.heap[c]?) ∧ W.heap.size ≤ W₁.heap.size ∧ (∀ k o, B ≤ k → W.heap[k]? = some o → o.isCells = false → W₁.heap[k]? = some o) ∧
        body.wpIn (RW l) 0 P (roundEnd B keep (I (k + 1)) (Ix k) W₂) a₁ W₂ := hq
      have hlW : W₁.heap[l]? = some (.loop (rec .ready none)) := by
        have := (hq1 W₁ ⟨rfl, rfl, rfl, Nat.le_refl _, fun _ _ h _ => h⟩ (fun _ _ => rfl)).1
        rw [this]; exact hl
      have hput : ∀ (A : World) (o' : Obj) (c : Nat), keep c → (A.putObj l o').heap[c]? = A.heap[c]? := fun A o' c hc => World.putObj_heap_other (fun e => hkl (e ▸ hc))
      obtain ⟨_, hkeep, hsz, hnc, hb⟩ := hq1 (W₁.putObj l (.loop { rec .ready none with state := .busy })) (.putObj hlW rfl hBl) (hput _ _)
      have hlt1 : l < W₁.heap.size := by omega
      have hl2 : (W₁.putObj l (.loop { rec .ready none with state := .busy })).heap[l]? = some (.loop { rec .ready none with state := .busy }) := World.putObj_heap_same hlt1
      refine ⟨_, run_beginRound hlW (by rw [hrec]), wpIn_mono hb ?_⟩
      have hx1 : X (W₁.putObj l (.loop { rec .ready none with state := .busy })) := hXp _ _ (hXl W W₁ ⟨hsz, hnc⟩ hx)
      have fin : ∀ (jump : Option Code) (W3 : World), Leaves B (W₁.putObj l (.loop { rec .ready none with state := .busy })) W3 → (∀ c, keep c → W3.heap[c]? = (W₁.putObj l (.loop { rec .ready none with state := .busy })).heap[c]?) →
          (Instr.endRound l jump).run P W3 = .ok (.bool jump.isNone) (W3.putObj l (.loop (rec (if jump.isNone then .ready else .done) jump))) ∧
          W3.heap[l]? = some (.loop { rec .ready none with state := .busy }) ∧
          (W3.putObj l (.loop (rec (if jump.isNone then .ready else .done) jump))).heap[l]? = some (.loop (rec (if jump.isNone then .ready else .done) jump)) ∧
          (∀ c, keep c → (W3.putObj l (.loop (rec (if jump.isNone then .ready else .done) jump))).heap[c]? = W.heap[c]?) ∧ W.heap.size ≤ (W3.putObj l (.loop (rec (if jump.isNone then .ready else .done) jump))).heap.size ∧
          X (W3.putObj l (.loop (rec (if jump.isNone then .ready else .done) jump))) := fun jump W3 hk3 hkp3 => by
        have hl3 := hk3.2 _ _ hBl hl2 rfl
        have := run_endRound (P := P) jump hl3
        rw [hrec] at this ⊢
        refine ⟨this, by rw [hrec] at hl3; exact hl3, World.putObj_heap_same (Array.getElem?_eq_some_iff.1 hl3).1, fun c hc => ?_, ?_, ?_⟩
        · rw [hput _ _ c hc, hkp3 c hc, hput _ _ c hc, hkeep c hc]
        · have h1 := hk3.1
          simp only [World.putObj, Array.size_setIfInBounds] at h1 ⊢
          omega
        · exact hXp _ _ (hXl _ _ hk3 hx1)
      rintro e a3 W3 hp
      cases e with
      | normal =>
        obtain ⟨hk3, hkp3, hi3⟩ := hp
        obtain ⟨hr, hl3, hl4, hc4, hs4, hx4⟩ := fin none W3 hk3 hkp3
        exact ⟨_, _, hr, _, rfl, hc4, hs4, by rw [if_pos (show (none : Option Code).isNone = true from rfl)]; exact ⟨hI _ _ _ (.putObj hl3 rfl hBl) hi3, hx4, hl4⟩⟩
      | ret =>
        obtain ⟨hk3, hkp3, hi3⟩ := hp
        obtain ⟨hr, hl3, hl4, hc4, hs4, hx4⟩ := fin (some .ret) W3 hk3 hkp3
        exact ⟨_, _, hr, _, rfl, hc4, hs4, by rw [if_neg (show ¬ (some (Code.ret : Code)).isNone = true by simp)]; exact ⟨.ret, hIx _ _ _ _ (.putObj hl3 rfl hBl) hi3, hx4, hl4⟩⟩
      | exit id =>
        obtain ⟨hk3, hkp3, hi3⟩ := hp
        obtain ⟨hr, hl3, hl4, hc4, hs4, hx4⟩ := fin (some (.exit id)) W3 hk3 hkp3
        exact ⟨_, _, hr, _, rfl, hc4, hs4, by rw [if_neg (show ¬ (some (Code.exit id : Code)).isNone = true by simp)]; exact ⟨.exit id, hIx _ _ _ _ (.putObj hl3 rfl hBl) hi3, hx4, hl4⟩⟩
      | goto t =>
        obtain ⟨hk3, hkp3, hi3⟩ := hp
        obtain ⟨hr, hl3, hl4, hc4, hs4, hx4⟩ := fin (some (.goto t)) W3 hk3 hkp3
        exact ⟨_, _, hr, _, rfl, hc4, hs4, by rw [if_neg (show ¬ (some (Code.goto t : Code)).isNone = true by simp)]; exact ⟨.goto t, hIx _ _ _ _ (.putObj hl3 rfl hBl) hi3, hx4, hl4⟩⟩
      | panic ch => exact hp.elim
      | outgrown => exact hp.elim
    | _ => exact hq.elim
  · rintro e W2 ⟨rfl, (⟨hi, hx, hl⟩ | ⟨k, hk, c, hi, hx, hl⟩)⟩
    · refine ⟨none, _, by have := run_endLoop (P := P) hl (by rw [hrec]; simp); rw [hrec] at this; exact this, ?_⟩
      exact hdone _ (hI _ _ _ (.putObj hl rfl hBl) hi) (hXp _ _ hx)
    · refine ⟨some c, _, by have := run_endLoop (P := P) hl (by rw [hrec]; simp); rw [hrec] at this; exact this, ?_⟩
      exact hstop k c _ hk (hIx _ _ _ _ (.putObj hl rfl hBl) hi) (hXp _ _ hx)

/-- THE STATEMENT, where it stands in no round. -/
theorem wp_range2 {g : Operand} {ps : Array Tmp} {assign body : Code} {Q : Exit → Act → World → Prop} {a : Act} {w w0 : World} {gf : Nat} {lb : Array Value} {enc : Nat → Array Value} {N : Nat} {keep own : Nat → Prop}
    (hg : a.eval g = .func (.func gf) #[] lb) (eg : Enters P gf) (hseq : Iter2 P gf lb enc N keep own w0) (hk : ∀ b, keep b → b < w.heap.size ∧ w.heap[b]? = w0.heap[b]?) (hps : ∀ k, (enc k).size = ps.size)
    (I : Nat → World → Prop) (Ix : Nat → Code → World → Prop) (hI : ∀ k A A', Calm w.heap.size A A' → I k A → I k A') (hIx : ∀ k c A A', Calm w.heap.size A A' → Ix k c A → Ix k c A')
    (hIo : ∀ k A b v, own b → I k A → I k (A.setCell ⟨b, 0, none⟩ v))
    (h0 : I 0 w)
    (hround : ∀ (l k : Nat) (W : World), w.heap.size ≤ l → (∃ r, W.heap[l]? = some (.loop r)) → k < N → I k W →
      RoundOk P w.heap.size l keep (I (k + 1)) (Ix k) assign body { tmps := (ps.zip (enc k)).foldl (fun t (p, v) => t.setIfInBounds p v) a.tmps, defers := [] } W)
    (hdone : ∀ (D : Nat) W, w.heap.size ≤ D → I N W → W.heap[D]? = some (.deferred (some [])) → Q .normal { a with defers := { target := .collected D, args := #[] } :: a.defers } W)
    (hstop : ∀ (D k : Nat) c W, w.heap.size ≤ D → k < N → Ix k c W → W.heap[D]? = some (.deferred (some [])) → c.wp P Q { a with defers := { target := .collected D, args := #[] } :: a.defers } W) :
    (Code.rangeFunc g ps assign body).wp P Q a w := by
  refine wpIn_wide.1 (wpIn_rangeFunc (n := 1) ?_)
  intro fn hfn
  obtain ⟨rec, hrec⟩ : ∃ rec : LoopState → Option Code → Loop, rec = fun st pe => { state := st, pending := pe, fn, tmps := a.tmps, params := ps, assign, body, defers := w.heap.size } := ⟨_, rfl⟩
  obtain ⟨W1, hW1⟩ : ∃ W1, (w.alloc (.deferred (some []))).alloc (.loop (rec .ready none)) = W1 := ⟨_, rfl⟩
  have hL1 : W1.heap[w.heap.size + 1]? = some (.loop (rec .ready none)) := by
    rw [← hW1]; have := World.alloc_heap_new (w.alloc (.deferred (some []))) (.loop (rec .ready none)); rwa [World.size_alloc] at this
  have hD1 : W1.heap[w.heap.size]? = some (.deferred (some [])) := by
    rw [← hW1]; exact (Below.heap_alloc _ _ _ (by simp)).trans (World.alloc_heap_new w _)
  have hb1 : Below w.heap.size w W1 := by
    rw [← hW1]; exact ((Below.refl _ w).alloc (Nat.le_refl _) _).alloc (by simp) _
  refine ⟨w.heap.size + 1, [{ target := .collected w.heap.size, args := #[] }], W1, { target := .fn (.func gf) lb, args := #[.func (.yield (w.heap.size + 1)) #[] #[]] }, W1, gf,
    #[.func (.yield (w.heap.size + 1)) #[] #[]] ++ lb, W1, ?_, ?_, fun _ _ => trivial, ?_, fun _ => by omega, ?_⟩
  · rw [← hW1, hrec]; exact run_enterLoop_outer _ _ _ _ _
  · simp only [resolve, hg]
    simp [go_sem]
  · simp [invoke, go_sem, eg _ _]
  · refine range_core2 (a := a) (w := w) (B := w.heap.size) (D := w.heap.size) hfn (fun g args W R h => callsIn_wide.2 h) hrec hL1 (by omega) hseq (fun b hb => (hb1.block b (hk b hb).1).trans (hk b hb).2) (fun hb => by have := (hk _ hb).1; omega) hps I Ix hI hIx hIo
      (fun W => W.heap[w.heap.size]? = some (.deferred (some []))) (fun A A' hA h => h _ _ (Nat.le_refl _) (by omega) hA rfl) hD1 (hI 0 w W1 (.of_below hb1) h0) ?_ (fun W hi hx => hdone _ W (Nat.le_refl _) hi hx) (fun k c W hkN hi hx => wpIn_wide.2 (hstop _ k c W (Nat.le_refl _) hkN hi hx))
    intro k W hr hkN hi
    refine hround (w.heap.size + 1) k W (by omega) hr hkN hi _ ?_
    intro a' W' hb hbody W₂ hc hkeep
    have hlt : ∀ {c o}, W.heap[c]? = some o → W'.heap[c]? = some o := fun {c o} ho => (hb.block c (Array.getElem?_eq_some_iff.1 ho).1).trans ho
    obtain ⟨r, hr⟩ := hr
    have hlr := (Array.getElem?_eq_some_iff.1 hr).1
    exact ⟨by rw [hlt hr, hr], fun c hck => hb.block c (by have := (hk c hck).1; omega), hb.size, fun c o _ ho _ => hlt ho, hbody W₂ hc⟩

end Go.Proofs.YtoaliamemkjfhaaLift

