/-
  A region that draws its order: quiet operations (they read; their callees only draw), ONE operation among them that makes memory, and a tail in sequence behind them all. One walk of the text's order, in a class of worlds before and after the one operation, serves every order.
-/
import Derived.Test.YtoaliamemkjfhaaLift
import Derived.Test.YtoaliamemkjfhaaWLast
import Derived.Deep.QuietTactic
import Derived.StillTail
namespace Go.Proofs.YtoaliamemkjfhaaLift
open Go Go.RowKit Go.Proofs.YtoaliamemkjfhaaW.PrintLast
set_option linter.unusedVariables false
section
variable {P : Program} {ops ops' : Array Oper} {C D : World → Prop} {af : Act}

theorem anyQ_keeps : ∀ (fuel : Nat) (listed : Array Bool) (a : Act), wpAnyQ P .any ops C (fun a' => a' = af) fuel listed a →
    af.defers = a.defers ∧ ∀ t, (∀ j oj, ops[j]? = some oj → listed.getD j true = false → oj.dst ≠ some t) → af.tmps[t]? = a.tmps[t]?
  | 0, _, _, h => by rw [h.2]; exact ⟨rfl, fun _ _ => rfl⟩
  | fuel + 1, listed, a, h => by
    cases hr : Region.ready .any ops listed with
    | nil => rw [h.1 hr]; exact ⟨rfl, fun _ _ => rfl⟩
    | cons i rest =>
      have hi : i ∈ Region.ready .any ops listed := by rw [hr]; exact List.mem_cons_self
      obtain ⟨hun, oi, hoi, _⟩ := mem_ready.1 hi
      obtain ⟨v, _, hK⟩ := yieldsIn_of_qOp hoi (h.2 i hi)
      obtain ⟨h1, h2⟩ := anyQ_keeps fuel _ _ hK
      refine ⟨h1.trans (by cases oi.dst <;> rfl), fun t ht => ?_⟩
      have h3 := h2 t (fun j oj hj hl => ht j oj hj (by
        by_cases hij : i = j
        · subst hij; exact hun
        · rwa [getD_set_ne true hij] at hl))
      rw [h3]
      have h4 := ht i oi hoi hun
      cases hd : oi.dst with
      | none => rfl
      | some d =>
        simp only [Act.put]
        rw [Array.getElem?_setIfInBounds_ne (by rintro rfl; exact h4 hd)]

theorem same_put {fuel : Nat} {listed : Array Bool} {a : Act} {i : Nat} {oi : Oper} (hi : i < listed.size)
    (hdst : ∀ j oj t, ops[j]? = some oj → j ≠ i → oi.dst = some t → oj.dst ≠ some t) {u v : Value}
    (hu : wpAnyQ P .any ops C (fun a' => a' = af) fuel (listed.setIfInBounds i true) (a.put oi.dst u))
    (hv : wpAnyQ P .any ops D (fun a' => a' = af) fuel (listed.setIfInBounds i true) (a.put oi.dst v)) : a.put oi.dst u = a.put oi.dst v := by
  cases hd : oi.dst with
  | none => rfl
  | some t =>
    rw [hd] at hu hv
    have key : ∀ j oj, ops[j]? = some oj → (listed.setIfInBounds i true).getD j true = false → oj.dst ≠ some t := by
      intro j oj hj hl
      by_cases hij : j = i
      · subst hij
        simp [Array.getD_eq_getD_getElem?, hi] at hl
      · exact hdst j oj t hj hij hd
    have e1 := (anyQ_keeps _ _ _ hu).2 t key
    have e2 := (anyQ_keeps _ _ _ hv).2 t key
    rw [e1] at e2
    simp only [Act.put] at e2 ⊢
    by_cases ht : t < a.tmps.size
    · have : u = v := by simpa [ht] using e2
      rw [this]
    · rw [Array.setIfInBounds_def, dif_neg ht, Array.setIfInBounds_def, dif_neg ht]

theorem quiet_at {i : Nat} {o : Oper} {a : Act} {K : Act → Prop} (ho : ops[i]? = some o) (hg : o.guard = none) (h : qOp P ops C i K a) : ∃ v, (∀ w, C w → o.quietAt P a C w v) ∧ K (a.put o.dst v) := by
  unfold qOp at h
  simp only [ho] at h
  rw [if_pos (by simp [Region.wanted, hg])] at h
  exact h

theorem exists_ready {listed : Array Bool} (hs : listed.size = ops.size) (hb : ∀ j o, ops[j]? = some o → ∀ e ∈ o.after, Region.binds .any e = true → e.on < j) :
    ∀ i, i < ops.size → listed.getD i false = false → ∃ j, j ≤ i ∧ j ∈ Region.ready .any ops listed := by
  intro i
  induction i using Nat.strongRecOn with
  | _ i ih =>
    intro hi hun
    by_cases h : ∀ j, j < i → listed.getD j false = true
    · exact ⟨i, Nat.le_refl _, mem_ready.2 ⟨getD_in (by omega) hun, ops[i], Array.getElem?_eq_getElem hi, fun e he hbd => h _ (hb i _ (Array.getElem?_eq_getElem hi) e he hbd)⟩⟩
    · have ⟨j, hj⟩ := Classical.not_forall.1 h
      have ⟨hj, hl⟩ := Classical.not_imp.1 hj
      obtain ⟨k, hk, hr⟩ := ih j hj (by omega) (by simpa using hl)
      exact ⟨k, by omega, hr⟩

/-- The tail, in sequence. -/
theorem any_tail {Q : Exit → Act → World → Prop} (hafter : ∀ i listed, i ∈ Region.ready .any ops listed → i ∈ Region.ready .any ops' listed) :
    ∀ (l : List Oper) (k fuel : Nat) (listed : Array Bool) (a b : Act) (w : World), (∀ j, l[j]? = ops[k + j]?) → (∀ j o, k ≤ j → ops'[j]? = some o → o.guard = none) →
      Region.seqB .any ops l.length k listed = true → wpAnyQ P .any ops' C (fun a' => a' = af) fuel listed b → wpList P ops Q l a w → wpAny P .any ops Q fuel listed a w
  | [], k, fuel, listed, a, b, w, _, _, hB, _, h => by
    have hB : Region.ready .any ops listed = [] := by simpa [Region.seqB] using hB
    cases fuel with
    | zero => exact ⟨hB, h⟩
    | succ fuel => exact ⟨fun _ => h, fun i hi => by rw [hB] at hi; cases hi⟩
  | o :: l, k, fuel, listed, a, b, w, hl, hg, hB, hq, h => by
    have h0 : ops[k]? = some o := by simpa using (hl 0).symm
    simp only [List.length_cons, Region.seqB, Bool.and_eq_true, decide_eq_true_eq] at hB
    have hk : k ∈ Region.ready .any ops' listed := hafter k listed (by rw [hB.1]; exact List.mem_cons_self)
    cases fuel with
    | zero => have := hq.1; rw [this] at hk; cases hk
    | succ fuel =>
      refine ⟨fun h1 => (by rw [hB.1] at h1; cases h1), fun i hi => ?_⟩
      rw [hB.1] at hi
      have hik : i = k := by simpa using hi
      subst hik
      obtain ⟨_, o', ho', _⟩ := mem_ready.1 hk
      obtain ⟨v, _, hK⟩ := quiet_at ho' (hg _ _ (Nat.le_refl _) ho') (hq.2 _ hk)
      have hw : wpOp P ops Q i (wpList P ops Q l) a w := by unfold wpOp; simp only [h0]; exact h
      exact wpOp_mono (fun a' w' h' => any_tail hafter l (i + 1) fuel _ a' _ w' (fun j => by have := hl (j + 1); simpa [Nat.add_assoc, Nat.add_comm 1 j] using this) (fun j o hj => hg j o (by omega)) hB.2 hK h') hw
end

/-- The operations, that one (number p) a plain value, the tail (from n on) nothing. -/
def mask (n p : Nat) (cv : Value) : Nat → List Oper → List Oper
  | _, [] => []
  | k, o :: r => (if k = p then { o with op := .move (.const cv) } else if n ≤ k then { o with op := .move (.const undef), dst := none } else o) :: mask n p cv (k + 1) r
def masked (n p : Nat) (cv : Value) (k : Nat) (o : Oper) : Oper := if k = p then { o with op := .move (.const cv) } else if n ≤ k then { o with op := .move (.const undef), dst := none } else o
theorem mask_get (n p : Nat) (cv : Value) : ∀ (l : List Oper) (k j : Nat), (mask n p cv k l)[j]? = (l[j]?).map (masked n p cv (k + j))
  | [], k, j => by simp [mask]
  | o :: l, k, 0 => by simp [mask, masked]
  | o :: l, k, j + 1 => by
    have := mask_get n p cv l (k + 1) j
    simp only [mask, List.getElem?_cons_succ, this]
    congr 2
    omega
theorem mask_length (n p : Nat) (cv : Value) : ∀ (l : List Oper) (k : Nat), (mask n p cv k l).length = l.length
  | [], _ => rfl
  | o :: l, k => by simp [mask, mask_length n p cv l (k + 1)]
theorem masked_after (n p : Nat) (cv : Value) (k : Nat) (o : Oper) : (masked n p cv k o).after = o.after ∧ (masked n p cv k o).guard = o.guard := by
  unfold masked
  split
  · exact ⟨rfl, rfl⟩
  · split <;> exact ⟨rfl, rfl⟩

def firsts (n N : Nat) : Array Bool := (Array.range N).map fun i => decide (i < n)
def floatB (n p : Nat) (ts : List Nat) (l : List Oper) : Bool :=
  l.all (fun o => o.guard.isNone) &&
  (decide (n ≤ l.length) && (decide (p < n) || decide (l.length ≤ p))) &&
  (List.range n).all (fun i => (List.range n).all fun j => i == j || ((l[i]?).bind (·.dst)).isNone || ((l[i]?).bind (·.dst)) != ((l[j]?).bind (·.dst))) &&
  (List.range l.length).all (fun j => ((l[j]?).map fun o => o.after.all fun e => !Region.binds .any e || decide (e.on < j)).getD true) &&
  (List.range n).all (fun i => (List.range l.length).all fun t => decide (t < n) || Region.reachB .any l.toArray i l.length t) &&
  (List.range n).all (fun j => (((l[j]?).bind (·.dst)).map fun t => !ts.contains t || Region.reachB .any l.toArray j l.length p).getD true) &&
  Region.seqB .any l.toArray (l.length - n) n (firsts n l.length)

section
variable {P : Program} {l : List Oper} {n p : Nat} {ts : List Nat} {cv : Value} {C : Bool → World → Prop} {af : Act} {Q : Exit → Act → World → Prop}

theorem any_floating_at (hF : floatB n p ts l = true)
    (heff : ∀ (o : Oper) (a : Act) (w : World), l[p]? = some o → C false w → (∀ t ∈ ts, af.tmps[t]? = a.tmps[t]?) → ∃ w', (execOp a.eval o).run P w = .ok (.value cv) w' ∧ C true w')
    (hlast : ∀ w, C (decide (p < n)) w → wpList P l.toArray Q (l.drop n) af w) :
    ∀ (fuel : Nat) (listed : Array Bool) (a : Act) (w : World), listed.size = l.length → ListedClosed .any l.toArray listed → (∀ t, n ≤ t → listed.getD t false = false) → C (listed.getD p false) w →
      (∀ b, wpAnyQ P .any (mask n p cv 0 l).toArray (C b) (fun a' => a' = af) fuel listed a) → wpAny P .any l.toArray Q fuel listed a w := by
  simp only [floatB, Bool.and_eq_true] at hF
  obtain ⟨⟨⟨⟨⟨⟨hg, hn, hp⟩, hd⟩, hb⟩, hr⟩, ht⟩, hq⟩ := hF
  have hn : n ≤ l.length := by simpa using hn
  have hp : p < n ∨ l.length ≤ p := by simpa using hp
  have hg : ∀ (j : Nat) (o : Oper), l[j]? = some o → o.guard = none := fun j o ho => by
    have := List.all_eq_true.1 hg o (List.mem_of_getElem? ho)
    simpa using this
  have hd : ∀ (i j : Nat) (oi oj : Oper) (t : Tmp), l[i]? = some oi → l[j]? = some oj → i < n → j < n → i ≠ j → oi.dst = some t → oj.dst ≠ some t := fun i j oi oj t hi hj hin hjn hij h1 h2 => by
    have := List.all_eq_true.1 (List.all_eq_true.1 hd i (List.mem_range.2 hin)) j (List.mem_range.2 hjn)
    simp [hi, hj, h1, h2, hij] at this
  have hb : ∀ (j : Nat) (o : Oper), l.toArray[j]? = some o → ∀ e ∈ o.after, Region.binds .any e = true → e.on < j := fun j o ho e he hbd => by
    have hjl : j < l.length := by have := (Array.getElem?_eq_some_iff.1 ho).1; simpa using this
    have := List.all_eq_true.1 hb j (List.mem_range.2 hjl)
    rw [List.getElem?_toArray] at ho
    simp only [ho, Option.map_some, Option.getD_some] at this
    have := Array.all_eq_true_iff_forall_mem.1 this e he
    simpa [hbd] using this
  have hr : ∀ i t, i < n → n ≤ t → t < l.length → Region.reachB .any l.toArray i l.length t = true := fun i t hi hnt htl => by
    have := List.all_eq_true.1 (List.all_eq_true.1 hr i (List.mem_range.2 hi)) t (List.mem_range.2 htl)
    simpa [Nat.not_lt.2 hnt] using this
  have ht : ∀ (j : Nat) (o : Oper) (t : Tmp), l[j]? = some o → j < n → o.dst = some t → t ∈ ts → Region.reachB .any l.toArray j l.length p = true := fun j o t hj hjn ho hts => by
    have := List.all_eq_true.1 ht j (List.mem_range.2 hjn)
    simpa [hj, ho, hts] using this
  have hget : ∀ j, (mask n p cv 0 l).toArray[j]? = (l[j]?).map (masked n p cv j) := fun j => by rw [List.getElem?_toArray, mask_get, Nat.zero_add]
  have hafter : ∀ i listed, i ∈ Region.ready .any l.toArray listed → i ∈ Region.ready .any (mask n p cv 0 l).toArray listed := fun i listed hi => by
    obtain ⟨h1, o, ho, h2⟩ := mem_ready.1 hi
    rw [List.getElem?_toArray] at ho
    exact mem_ready.2 ⟨h1, masked n p cv i o, by rw [hget, ho]; rfl, by rw [(masked_after n p cv i o).1]; exact h2⟩
  have hg' : ∀ (j : Nat) (o : Oper), (mask n p cv 0 l).toArray[j]? = some o → o.guard = none := fun j o ho => by
    rw [hget] at ho
    cases hl : l[j]? with
    | none => rw [hl] at ho; cases ho
    | some o1 => rw [hl] at ho; cases ho; rw [(masked_after n p cv j o1).2]; exact hg j o1 hl
  have htail : ∀ (j : Nat) (o : Oper), n ≤ j → (mask n p cv 0 l).toArray[j]? = some o → o.dst = none := fun j o hj ho => by
    rw [hget] at ho
    cases hl : l[j]? with
    | none => rw [hl] at ho; cases ho
    | some o1 =>
      have := (List.getElem?_eq_some_iff.1 hl).1
      rw [hl] at ho
      cases ho
      unfold masked
      rw [if_neg (by omega), if_pos hj]
  intro fuel
  induction fuel with
  | zero =>
    intro listed a w hs hc htl hw hQ
    by_cases hall : ∀ i, i < l.length → listed.getD i false = true
    · have hnl : n = l.length := by
        rcases Nat.lt_or_ge n l.length with h | h
        · have h1 := htl n (Nat.le_refl _)
          rw [hall n h] at h1
          cases h1
        · omega
      refine ⟨?_, ?_⟩
      · cases hrd : Region.ready .any l.toArray listed with
        | nil => rfl
        | cons i r =>
          have := (hQ true).1
          have h2 := hafter i listed (by rw [hrd]; exact List.mem_cons_self)
          rw [this] at h2
          cases h2
      · have h1 := (hQ true).2
        subst h1
        have h2 := hlast w (by
          have : listed.getD p false = decide (p < n) := by
            rcases hp with hp | hp
            · rw [hall p (by omega)]; simp [hp]
            · rw [htl p (by omega)]; simp; omega
          rw [← this]; exact hw)
        rw [hnl, List.drop_length] at h2
        exact h2
    · have ⟨j, hj⟩ := Classical.not_forall.1 hall
      have ⟨hj, hl⟩ := Classical.not_imp.1 hj
      obtain ⟨k, _, hk⟩ := exists_ready (ops := l.toArray) (by simpa using hs) hb j (by simpa using hj) (by simpa using hl)
      have := (hQ true).1
      have h2 := hafter k listed hk
      rw [this] at h2
      cases h2
  | succ fuel ih =>
    intro listed a w hs hc htl hw hQ
    by_cases hall : ∀ i, i < n → listed.getD i false = true
    · have e1 : listed = firsts n l.length := by
        apply Array.ext_getElem?
        intro i
        unfold firsts
        by_cases hi : i < l.length
        · rw [Array.getElem?_map, Array.getElem?_range, if_pos hi]
          by_cases hin : i < n
          · have := hall i hin
            simp [Array.getD_eq_getD_getElem?, show i < listed.size by omega] at this ⊢
            simp [this, hin]
          · have := htl i (by omega)
            simp [Array.getD_eq_getD_getElem?, show i < listed.size by omega] at this ⊢
            simp [this]; omega
        · rw [Array.getElem?_eq_none (by omega), Array.getElem?_eq_none (by simp; omega)]
      have hk := anyQ_keeps _ _ _ (hQ true)
      have e2 : af = a := by
        obtain ⟨t1, d1⟩ := af
        obtain ⟨t2, d2⟩ := a
        have h1 : d1 = d2 := hk.1
        have h2 : t1 = t2 := by
          apply Array.ext_getElem?
          intro t
          refine hk.2 t (fun j oj hj hl => ?_)
          have hjn : n ≤ j := by
            rcases Nat.lt_or_ge j n with h | h
            · have h3 := hall j h
              have : j < listed.size := by omega
              simp [Array.getD_eq_getD_getElem?, this] at h3 hl
              rw [h3] at hl
              cases hl
            · exact h
          rw [htail j oj hjn hj]
          simp
        rw [h1, h2]
      subst e2
      refine any_tail (ops' := (mask n p cv 0 l).toArray) (C := C true) (af := af) hafter (l.drop n) n (fuel + 1) listed af af w (fun j => by rw [List.getElem?_drop, List.getElem?_toArray]) (fun j o _ => hg' j o) ?_ (hQ true) (hlast w ?_)
      · rw [List.length_drop, e1]; exact hq
      · have : listed.getD p false = decide (p < n) := by
          rcases hp with hp | hp
          · rw [hall p hp]; simp [hp]
          · rw [htl p (by omega)]; simp; omega
        rw [← this]; exact hw
    · have ⟨i0, hi0⟩ := Classical.not_forall.1 hall
      have ⟨hi0, hl0⟩ := Classical.not_imp.1 hi0
      have hl0 : listed.getD i0 false = false := by simpa using hl0
      have hheads : ∀ t, t ∈ Region.ready .any l.toArray listed → t < n := fun t htr => by
        rcases Nat.lt_or_ge t n with h | h
        · exact h
        · have htl' : t < l.length := by
            obtain ⟨_, o, ho, _⟩ := mem_ready.1 htr
            have := (Array.getElem?_eq_some_iff.1 ho).1
            simpa using this
          exact absurd htr (Region.reach_not_ready hc (hr i0 t hi0 h htl') (getD_in (by omega) hl0))
      refine ⟨fun hnil => ?_, fun i hi => ?_⟩
      · obtain ⟨k, _, hk⟩ := exists_ready (ops := l.toArray) (by simpa using hs) hb i0 (by simp; omega) hl0
        rw [hnil] at hk
        cases hk
      · have hin := hheads i hi
        have hi' := hafter i listed hi
        obtain ⟨hun, oi, hoi, _⟩ := mem_ready.1 hi
        have hoi2 := hoi
        rw [List.getElem?_toArray] at hoi2
        have hil : i < listed.size := by omega
        have ho' : (mask n p cv 0 l).toArray[i]? = some (masked n p cv i oi) := by rw [hget, hoi2]; rfl
        have hdm : (masked n p cv i oi).dst = oi.dst := by
          unfold masked
          split
          · rfl
          · rw [if_neg (by omega)]
        obtain ⟨v0, q0, k0⟩ := quiet_at ho' (hg' i _ ho') ((hQ false).2 i hi')
        obtain ⟨v1, q1, k1⟩ := quiet_at ho' (hg' i _ ho') ((hQ true).2 i hi')
        have hdst : ∀ (j : Nat) (oj : Oper) (t : Tmp), (mask n p cv 0 l).toArray[j]? = some oj → j ≠ i → (masked n p cv i oi).dst = some t → oj.dst ≠ some t := fun j oj t hj hji ht1 => by
          rcases Nat.lt_or_ge j n with h | h
          · rw [hget] at hj
            cases hlj : l[j]? with
            | none => rw [hlj] at hj; cases hj
            | some o1 =>
              rw [hlj] at hj
              cases hj
              have : (masked n p cv j o1).dst = o1.dst := by
                unfold masked
                split
                · rfl
                · rw [if_neg (by omega)]
              rw [this]
              rw [hdm] at ht1
              exact hd i j oi o1 t hoi2 hlj hin h (Ne.symm hji) ht1
          · rw [htail j oj h hj]; simp
        have heq := same_put (oi := masked n p cv i oi) hil hdst k0 k1
        rw [hdm] at k0 k1 heq
        have hnext : ∀ b, wpAnyQ P .any (mask n p cv 0 l).toArray (C b) (fun a' => a' = af) fuel (listed.setIfInBounds i true) (a.put oi.dst v0) := by
          intro b
          cases b
          · exact k0
          · rw [heq]; exact k1
        have hs' : (listed.setIfInBounds i true).size = l.length := by simpa using hs
        have hc' := hc.set hi
        have htl' : ∀ t, n ≤ t → (listed.setIfInBounds i true).getD t false = false := fun t h => by rw [getD_set_ne false (by omega)]; exact htl t h
        unfold wpOp
        rw [hoi]
        simp only []
        rw [if_pos (by simp [Region.wanted, hg i oi hoi2])]
        refine .inl ?_
        by_cases hip : i = p
        · subst hip
          have hw0 : listed.getD i false = false := getD_both hun
          rw [hw0] at hw
          have hts : ∀ t ∈ ts, af.tmps[t]? = a.tmps[t]? := fun t hts => by
            refine (anyQ_keeps _ _ _ (hQ false)).2 t (fun j oj hj hl hdt => ?_)
            rcases Nat.lt_or_ge j n with h | h
            · rw [hget] at hj
              cases hlj : l[j]? with
              | none => rw [hlj] at hj; cases hj
              | some o1 =>
                rw [hlj] at hj
                cases hj
                have hd1 : (masked n i cv j o1).dst = o1.dst := by
                  unfold masked
                  split
                  · rfl
                  · rw [if_neg (by omega)]
                rw [hd1] at hdt
                exact Region.reach_not_ready hc (ht j o1 t hlj h hdt hts) hl hi
            · rw [htail j oj h hj] at hdt
              cases hdt
          obtain ⟨w', hrun, hC⟩ := heff oi a w hoi2 hw hts
          have hv : v0 = cv := by
            have h1 := q0 w hw
            have hm : (execOp a.eval (masked n i cv i oi)).run P w = .ok (.value cv) w := by
              unfold masked
              rw [if_pos rfl]
              rfl
            unfold Oper.quietAt at h1
            rw [hm] at h1
            exact h1.2.symm
          unfold Oper.wp
          rw [hrun]
          simp only [Oper.upon]
          rw [hv] at hnext
          refine ih _ _ _ hs' hc' htl' ?_ hnext
          have : (listed.setIfInBounds i true).getD i false = true := by simp [Array.getD_eq_getD_getElem?, hil]
          rw [this]
          exact hC
        · have hsame : masked n p cv i oi = oi := by
            unfold masked
            rw [if_neg hip, if_neg (by omega)]
          rw [hsame] at q0 q1
          have hpp : (listed.setIfInBounds i true).getD p false = listed.getD p false := getD_set_ne false hip
          cases hbp : listed.getD p false with
          | false =>
            rw [hbp] at hw hpp
            refine Oper.wp_of_quiet (C := C false) (K := fun a' => a' = a.put oi.dst v0) hw (fun a' w' hw' e => ?_) ⟨v0, q0, rfl⟩
            subst e
            exact ih _ _ _ hs' hc' htl' (by rw [hpp]; exact hw') hnext
          | true =>
            rw [hbp] at hw hpp
            refine Oper.wp_of_quiet (C := C true) (K := fun a' => a' = a.put oi.dst v0) hw (fun a' w' hw' e => ?_) ⟨v1, q1, heq.symm⟩
            subst e
            exact ih _ _ _ hs' hc' htl' (by rw [hpp]; exact hw') hnext

/-- One walk serves every order. -/
theorem any_floating {a : Act} {w : World} (hB : Region.lexB .any (mask n p cv 0 l).toArray = true) (hF : floatB n p ts l = true) (hC : C false w)
    (heff : ∀ (o : Oper) (a : Act) (w : World), l[p]? = some o → C false w → (∀ t ∈ ts, af.tmps[t]? = a.tmps[t]?) → ∃ w', (execOp a.eval o).run P w = .ok (.value cv) w' ∧ C true w')
    (hwalk : ∀ b, wpQuiet P (mask n p cv 0 l).toArray (C b) (fun a' => a' = af) (mask n p cv 0 l) a)
    (hlast : ∀ w, C (decide (p < n)) w → wpList P l.toArray Q (l.drop n) af w) :
    wpAny P .any l.toArray Q l.toArray.size (Array.replicate l.toArray.size false) a w := by
  have hsz : l.toArray.size = l.length := by simp
  have hB' := hB
  simp only [Region.lexB, Bool.and_eq_true] at hB'
  refine any_floating_at hF heff hlast _ _ a w (by simp) (fun j oj hj hl => ?_) (fun t _ => getD_replicate_false _ _) (by rw [getD_replicate_false]; exact hC) (fun b => ?_)
  · rw [getD_replicate_false] at hl
    cases hl
  · have h1 := wpAnyQ_lex (C := C b) (md := .any) (ops := (mask n p cv 0 l).toArray) hB'.1 (mask n p cv 0 l) 0 (Array.replicate (mask n p cv 0 l).toArray.size false) a (by simp) (by simpa using hB'.2) (hwalk b)
    have h2 : (mask n p cv 0 l).length = l.toArray.size := by rw [mask_length, hsz]
    have h3 : (mask n p cv 0 l).toArray.size = l.toArray.size := by rw [List.size_toArray, h2]
    rw [h2, h3] at h1
    exact h1
end
end Go.Proofs.YtoaliamemkjfhaaLift
