/-
  As LiftDraw's law on a region that draws its order; operations may be guarded ('&&', '||'), but for the one that makes memory, and the tail.
-/
import Derived.Test.YtmekjomfdomogaaLiftDraw
import Derived.Test.YtmekjomfdomogaaLiftPost
namespace Go.Proofs.YtmekjomfdomogaaLift
open Go Go.RowKit Go.Proofs.YtmekjomfdomogaaW.PrintLast
set_option linter.unusedVariables false

theorem quiet_want {P : Program} {ops : Array Oper} {C : World → Prop} {i : Nat} {o : Oper} {a : Act} {K : Act → Prop} (ho : ops[i]? = some o) (hw : Region.wanted o (yielded ops a.tmps) = true) (h : qOp P ops C i K a) : ∃ v, (∀ w, C w → o.quietAt P a C w v) ∧ K (a.put o.dst v) := by
  unfold qOp at h
  simp only [ho] at h
  rw [if_pos hw] at h
  exact h
theorem quiet_unwant {P : Program} {ops : Array Oper} {C : World → Prop} {i : Nat} {o : Oper} {a : Act} {K : Act → Prop} (ho : ops[i]? = some o) (hw : Region.wanted o (yielded ops a.tmps) = false) (h : qOp P ops C i K a) : K (a.put o.dst undef) := by
  unfold qOp at h
  simp only [ho] at h
  rw [if_neg (by rw [hw]; decide)] at h
  exact h
def floatG (n p : Nat) (ts : List Nat) (l : List Oper) : Bool :=
  (List.range l.length).all (fun i => match (l[i]?).bind (·.guard) with | none => true | some (g, _) => decide (i < n) && i != p && decide (g < n)) &&
  (decide (n ≤ l.length) && (decide (p < n) || decide (l.length ≤ p))) &&
  (List.range n).all (fun i => (List.range n).all fun j => i == j || ((l[i]?).bind (·.dst)).isNone || ((l[i]?).bind (·.dst)) != ((l[j]?).bind (·.dst))) &&
  (List.range l.length).all (fun j => ((l[j]?).map fun o => o.after.all fun e => !Region.binds .any e || decide (e.on < j)).getD true) &&
  (List.range n).all (fun i => (List.range l.length).all fun t => decide (t < n) || Region.reachB .any l.toArray i l.length t) &&
  (List.range n).all (fun j => (((l[j]?).bind (·.dst)).map fun t => !ts.contains t || Region.reachB .any l.toArray j l.length p).getD true) &&
  Region.seqB .any l.toArray (l.length - n) n (firsts n l.length)

section
variable {P : Program} {l : List Oper} {n p : Nat} {ts : List Nat} {cv : Value} {C : Bool → World → Prop} {af : Act} {Q : Exit → Act → World → Prop}

theorem any_guarded_at (hF : floatG n p ts l = true)
    (heff : ∀ (o : Oper) (a : Act) (w : World), l[p]? = some o → C false w → (∀ t ∈ ts, af.tmps[t]? = a.tmps[t]?) → ∃ w', (execOp a.eval o).run P w = .ok (.value cv) w' ∧ C true w')
    (hlast : ∀ w, C (decide (p < n)) w → wpList P l.toArray Q (l.drop n) af w) :
    ∀ (fuel : Nat) (listed : Array Bool) (a : Act) (w : World), listed.size = l.length → ListedClosed .any l.toArray listed → (∀ t, n ≤ t → listed.getD t false = false) → C (listed.getD p false) w →
      (∀ b, wpAnyQ P .any (mask n p cv 0 l).toArray (C b) (fun a' => a' = af) fuel listed a) → wpAny P .any l.toArray Q fuel listed a w := by
  simp only [floatG, Bool.and_eq_true] at hF
  obtain ⟨⟨⟨⟨⟨⟨hg, hn, hp⟩, hd⟩, hb⟩, hr⟩, ht⟩, hq⟩ := hF
  have hn : n ≤ l.length := by simpa using hn
  have hp : p < n ∨ l.length ≤ p := by simpa using hp
  have hg : ∀ (j : Nat) (o : Oper), l[j]? = some o → o.guard = none ∨ (j < n ∧ j ≠ p ∧ ∃ g b, o.guard = some (g, b) ∧ g < n) := fun j o ho => by
    have := List.all_eq_true.1 hg j (List.mem_range.2 (List.getElem?_eq_some_iff.1 ho).1)
    simp only [ho, Option.bind_some] at this
    cases hgd : o.guard with
    | none => exact .inl rfl
    | some x =>
      obtain ⟨g, b⟩ := x
      rw [hgd] at this
      simp only [Bool.and_eq_true, decide_eq_true_eq, bne_iff_ne] at this
      exact .inr ⟨this.1.1, this.1.2, g, b, rfl, this.2⟩
  have hd : ∀ (i j : Nat) (oi oj : Oper) (t : Tmp), l[i]? = some oi → l[j]? = some oj → i < n → j < n → i ≠ j → oi.dst = some t → oj.dst ≠ some t := fun i j oi oj t hi hj hin hjn hij h1 h2 => by
    have := List.all_eq_true.1 (List.all_eq_true.1 hd i (List.mem_range.2 hin)) j (List.mem_range.2 hjn)
    simp [hi, hj, h1, h2, hij] at this
  have hb : ∀ (j : Nat) (o : Oper), l.toArray[j]? = some o → ∀ e ∈ o.after, Region.binds .any e = true → e.on < j := fun j o ho e he hbd => by
    have hjl : j < l.length := by have := (Array.getElem?_eq_some_iff.1 ho).1; simpa using this
    have := List.all_eq_true.1 hb j (List.mem_range.2 hjl)
    rw [List.getElem?_toArray] at ho
    simp only [ho, Option.map_some, Option.getD_some] at this
    have := Array.all_eq_true_iff_forall_mem.1 this e he
    simpa [hbd] using this
  have hr : ∀ i t, i < n → n ≤ t → t < l.length → Region.reachB .any l.toArray i l.length t = true := fun i t hi hnt htl => by
    have := List.all_eq_true.1 (List.all_eq_true.1 hr i (List.mem_range.2 hi)) t (List.mem_range.2 htl)
    simpa [Nat.not_lt.2 hnt] using this
  have ht : ∀ (j : Nat) (o : Oper) (t : Tmp), l[j]? = some o → j < n → o.dst = some t → t ∈ ts → Region.reachB .any l.toArray j l.length p = true := fun j o t hj hjn ho hts => by
    have := List.all_eq_true.1 ht j (List.mem_range.2 hjn)
    simpa [hj, ho, hts] using this
  have hget : ∀ j, (mask n p cv 0 l).toArray[j]? = (l[j]?).map (masked n p cv j) := fun j => by rw [List.getElem?_toArray, mask_get, Nat.zero_add]
  have hafter : ∀ i listed, i ∈ Region.ready .any l.toArray listed → i ∈ Region.ready .any (mask n p cv 0 l).toArray listed := fun i listed hi => by
    obtain ⟨h1, o, ho, h2⟩ := mem_ready.1 hi
    rw [List.getElem?_toArray] at ho
    exact mem_ready.2 ⟨h1, masked n p cv i o, by rw [hget, ho]; rfl, by rw [(masked_after n p cv i o).1]; exact h2⟩
  have hg' : ∀ (j : Nat) (o : Oper), n ≤ j → (mask n p cv 0 l).toArray[j]? = some o → o.guard = none := fun j o hnj ho => by
    rw [hget] at ho
    cases hl : l[j]? with
    | none => rw [hl] at ho; cases ho
    | some o1 =>
      rw [hl] at ho
      cases ho
      rw [(masked_after n p cv j o1).2]
      rcases hg j o1 hl with h | ⟨h, _⟩
      · exact h
      · omega
  have hwant : ∀ (j : Nat) (o : Oper) (a : Act), l[j]? = some o → Region.wanted (masked n p cv j o) (yielded (mask n p cv 0 l).toArray a.tmps) = Region.wanted o (yielded l.toArray a.tmps) := fun j o a ho => by
    unfold Region.wanted
    rw [(masked_after n p cv j o).2]
    rcases hg j o ho with h | ⟨_, _, g, b, h, hgn⟩
    · rw [h]
    · rw [h]
      simp only []
      have : yielded (mask n p cv 0 l).toArray a.tmps g = yielded l.toArray a.tmps g := by
        unfold yielded
        rw [hget, List.getElem?_toArray]
        cases hl : l[g]? with
        | none => rfl
        | some o1 =>
          have hd1 : (masked n p cv g o1).dst = o1.dst := by
            unfold masked
            split
            · rfl
            · rw [if_neg (by omega)]
          simp only [Option.map_some, Option.bind_some, hd1]
      rw [this]
  have htail : ∀ (j : Nat) (o : Oper), n ≤ j → (mask n p cv 0 l).toArray[j]? = some o → o.dst = none := fun j o hj ho => by
    rw [hget] at ho
    cases hl : l[j]? with
    | none => rw [hl] at ho; cases ho
    | some o1 =>
      have := (List.getElem?_eq_some_iff.1 hl).1
      rw [hl] at ho
      cases ho
      unfold masked
      rw [if_neg (by omega), if_pos hj]
  intro fuel
  induction fuel with
  | zero =>
    intro listed a w hs hc htl hw hQ
    by_cases hall : ∀ i, i < l.length → listed.getD i false = true
    · have hnl : n = l.length := by
        rcases Nat.lt_or_ge n l.length with h | h
        · have h1 := htl n (Nat.le_refl _)
          rw [hall n h] at h1
          cases h1
        · omega
      refine ⟨?_, ?_⟩
      · cases hrd : Region.ready .any l.toArray listed with
        | nil => rfl
        | cons i r =>
          have := (hQ true).1
          have h2 := hafter i listed (by rw [hrd]; exact List.mem_cons_self)
          rw [this] at h2
          cases h2
      · have h1 := (hQ true).2
        subst h1
        have h2 := hlast w (by
          have : listed.getD p false = decide (p < n) := by
            rcases hp with hp | hp
            · rw [hall p (by omega)]; simp [hp]
            · rw [htl p (by omega)]; simp; omega
          rw [← this]; exact hw)
        rw [hnl, List.drop_length] at h2
        exact h2
    · have ⟨j, hj⟩ := Classical.not_forall.1 hall
      have ⟨hj, hl⟩ := Classical.not_imp.1 hj
      obtain ⟨k, _, hk⟩ := exists_ready (ops := l.toArray) (by simpa using hs) hb j (by simpa using hj) (by simpa using hl)
      have := (hQ true).1
      have h2 := hafter k listed hk
      rw [this] at h2
      cases h2
  | succ fuel ih =>
    intro listed a w hs hc htl hw hQ
    by_cases hall : ∀ i, i < n → listed.getD i false = true
    · have e1 : listed = firsts n l.length := by
        apply Array.ext_getElem?
        intro i
        unfold firsts
        by_cases hi : i < l.length
        · rw [Array.getElem?_map, Array.getElem?_range, if_pos hi]
          by_cases hin : i < n
          · have := hall i hin
            simp [Array.getD_eq_getD_getElem?, show i < listed.size by omega] at this ⊢
            simp [this, hin]
          · have := htl i (by omega)
            simp [Array.getD_eq_getD_getElem?, show i < listed.size by omega] at this ⊢
            simp [this]; omega
        · rw [Array.getElem?_eq_none (by omega), Array.getElem?_eq_none (by simp; omega)]
      have hk := anyQ_keeps _ _ _ (hQ true)
      have e2 : af = a := by
        obtain ⟨t1, d1⟩ := af
        obtain ⟨t2, d2⟩ := a
        have h1 : d1 = d2 := hk.1
        have h2 : t1 = t2 := by
          apply Array.ext_getElem?
          intro t
          refine hk.2 t (fun j oj hj hl => ?_)
          have hjn : n ≤ j := by
            rcases Nat.lt_or_ge j n with h | h
            · have h3 := hall j h
              have : j < listed.size := by omega
              simp [Array.getD_eq_getD_getElem?, this] at h3 hl
              rw [h3] at hl
              cases hl
            · exact h
          rw [htail j oj hjn hj]
          simp
        rw [h1, h2]
      subst e2
      refine any_tail (ops' := (mask n p cv 0 l).toArray) (C := C true) (af := af) hafter (l.drop n) n (fuel + 1) listed af af w (fun j => by rw [List.getElem?_drop, List.getElem?_toArray]) (fun j o hj => hg' j o hj) ?_ (hQ true) (hlast w ?_)
      · rw [List.length_drop, e1]; exact hq
      · have : listed.getD p false = decide (p < n) := by
          rcases hp with hp | hp
          · rw [hall p hp]; simp [hp]
          · rw [htl p (by omega)]; simp; omega
        rw [← this]; exact hw
    · have ⟨i0, hi0⟩ := Classical.not_forall.1 hall
      have ⟨hi0, hl0⟩ := Classical.not_imp.1 hi0
      have hl0 : listed.getD i0 false = false := by simpa using hl0
      have hheads : ∀ t, t ∈ Region.ready .any l.toArray listed → t < n := fun t htr => by
        rcases Nat.lt_or_ge t n with h | h
        · exact h
        · have htl' : t < l.length := by
            obtain ⟨_, o, ho, _⟩ := mem_ready.1 htr
            have := (Array.getElem?_eq_some_iff.1 ho).1
            simpa using this
          exact absurd htr (Region.reach_not_ready hc (hr i0 t hi0 h htl') (getD_in (by omega) hl0))
      refine ⟨fun hnil => ?_, fun i hi => ?_⟩
      · obtain ⟨k, _, hk⟩ := exists_ready (ops := l.toArray) (by simpa using hs) hb i0 (by simp; omega) hl0
        rw [hnil] at hk
        cases hk
      · have hin := hheads i hi
        have hi' := hafter i listed hi
        obtain ⟨hun, oi, hoi, _⟩ := mem_ready.1 hi
        have hoi2 := hoi
        rw [List.getElem?_toArray] at hoi2
        have hil : i < listed.size := by omega
        have ho' : (mask n p cv 0 l).toArray[i]? = some (masked n p cv i oi) := by rw [hget, hoi2]; rfl
        have hdm : (masked n p cv i oi).dst = oi.dst := by
          unfold masked
          split
          · rfl
          · rw [if_neg (by omega)]
        have hdst : ∀ (j : Nat) (oj : Oper) (t : Tmp), (mask n p cv 0 l).toArray[j]? = some oj → j ≠ i → (masked n p cv i oi).dst = some t → oj.dst ≠ some t := fun j oj t hj hji ht1 => by
          rcases Nat.lt_or_ge j n with h | h
          · rw [hget] at hj
            cases hlj : l[j]? with
            | none => rw [hlj] at hj; cases hj
            | some o1 =>
              rw [hlj] at hj
              cases hj
              have : (masked n p cv j o1).dst = o1.dst := by
                unfold masked
                split
                · rfl
                · rw [if_neg (by omega)]
              rw [this]
              rw [hdm] at ht1
              exact hd i j oi o1 t hoi2 hlj hin h (Ne.symm hji) ht1
          · rw [htail j oj h hj]; simp
        have hs' : (listed.setIfInBounds i true).size = l.length := by simpa using hs
        have hc' := hc.set hi
        have htl' : ∀ t, n ≤ t → (listed.setIfInBounds i true).getD t false = false := fun t h => by rw [getD_set_ne false (by omega)]; exact htl t h
        cases hwt : Region.wanted oi (yielded l.toArray a.tmps) with
        | false =>
          have hip : i ≠ p := by
            rcases hg i oi hoi2 with h | ⟨_, h, _⟩
            · unfold Region.wanted at hwt
              rw [h] at hwt
              cases hwt
            · exact h
          have hpp : (listed.setIfInBounds i true).getD p false = listed.getD p false := getD_set_ne false hip
          have hnext : ∀ b, wpAnyQ P .any (mask n p cv 0 l).toArray (C b) (fun a' => a' = af) fuel (listed.setIfInBounds i true) (a.put oi.dst undef) := by
            intro b
            have := quiet_unwant ho' (by rw [hwant i oi a hoi2]; exact hwt) ((hQ b).2 i hi')
            rw [hdm] at this
            exact this
          unfold wpOp
          rw [hoi]
          simp only []
          rw [if_neg (by rw [hwt]; decide)]
          exact ih _ _ _ hs' hc' htl' (by rw [hpp]; exact hw) hnext
        | true =>
          obtain ⟨v0, q0, k0⟩ := quiet_want ho' (by rw [hwant i oi a hoi2]; exact hwt) ((hQ false).2 i hi')
          obtain ⟨v1, q1, k1⟩ := quiet_want ho' (by rw [hwant i oi a hoi2]; exact hwt) ((hQ true).2 i hi')
          have heq := same_put (oi := masked n p cv i oi) hil hdst k0 k1
          rw [hdm] at k0 k1 heq
          have hnext : ∀ b, wpAnyQ P .any (mask n p cv 0 l).toArray (C b) (fun a' => a' = af) fuel (listed.setIfInBounds i true) (a.put oi.dst v0) := by
            intro b
            cases b
            · exact k0
            · rw [heq]; exact k1
          unfold wpOp
          rw [hoi]
          simp only []
          rw [if_pos hwt]
          refine .inl ?_
          by_cases hip : i = p
          · subst hip
            have hw0 : listed.getD i false = false := getD_both hun
            rw [hw0] at hw
            have hts : ∀ t ∈ ts, af.tmps[t]? = a.tmps[t]? := fun t hts => by
              refine (anyQ_keeps _ _ _ (hQ false)).2 t (fun j oj hj hl hdt => ?_)
              rcases Nat.lt_or_ge j n with h | h
              · rw [hget] at hj
                cases hlj : l[j]? with
                | none => rw [hlj] at hj; cases hj
                | some o1 =>
                  rw [hlj] at hj
                  cases hj
                  have hd1 : (masked n i cv j o1).dst = o1.dst := by
                    unfold masked
                    split
                    · rfl
                    · rw [if_neg (by omega)]
                  rw [hd1] at hdt
                  exact Region.reach_not_ready hc (ht j o1 t hlj h hdt hts) hl hi
              · rw [htail j oj h hj] at hdt
                cases hdt
            obtain ⟨w', hrun, hC⟩ := heff oi a w hoi2 hw hts
            have hv : v0 = cv := by
              have h1 := q0 w hw
              have hm : (execOp a.eval (masked n i cv i oi)).run P w = .ok (.value cv) w := by
                unfold masked
                rw [if_pos rfl]
                rfl
              unfold Oper.quietAt at h1
              rw [hm] at h1
              exact h1.2.symm
            unfold Oper.wp
            rw [hrun]
            simp only [Oper.upon]
            rw [hv] at hnext
            refine ih _ _ _ hs' hc' htl' ?_ hnext
            have : (listed.setIfInBounds i true).getD i false = true := by simp [Array.getD_eq_getD_getElem?, hil]
            rw [this]
            exact hC
          · have hsame : masked n p cv i oi = oi := by
              unfold masked
              rw [if_neg hip, if_neg (by omega)]
            rw [hsame] at q0 q1
            have hpp : (listed.setIfInBounds i true).getD p false = listed.getD p false := getD_set_ne false hip
            cases hbp : listed.getD p false with
            | false =>
              rw [hbp] at hw hpp
              refine Oper.wp_of_quiet (C := C false) (K := fun a' => a' = a.put oi.dst v0) hw (fun a' w' hw' e => ?_) ⟨v0, q0, rfl⟩
              subst e
              exact ih _ _ _ hs' hc' htl' (by rw [hpp]; exact hw') hnext
            | true =>
              rw [hbp] at hw hpp
              refine Oper.wp_of_quiet (C := C true) (K := fun a' => a' = a.put oi.dst v0) hw (fun a' w' hw' e => ?_) ⟨v1, q1, heq.symm⟩
              subst e
              exact ih _ _ _ hs' hc' htl' (by rw [hpp]; exact hw') hnext

/-- One walk serves every order. -/
theorem any_guarded {a : Act} {w : World} (hB : Region.lexB .any (mask n p cv 0 l).toArray = true) (hF : floatG n p ts l = true) (hC : C false w)
    (heff : ∀ (o : Oper) (a : Act) (w : World), l[p]? = some o → C false w → (∀ t ∈ ts, af.tmps[t]? = a.tmps[t]?) → ∃ w', (execOp a.eval o).run P w = .ok (.value cv) w' ∧ C true w')
    (hwalk : ∀ b, wpQuiet P (mask n p cv 0 l).toArray (C b) (fun a' => a' = af) (mask n p cv 0 l) a)
    (hlast : ∀ w, C (decide (p < n)) w → wpList P l.toArray Q (l.drop n) af w) :
    wpAny P .any l.toArray Q l.toArray.size (Array.replicate l.toArray.size false) a w := by
  have hsz : l.toArray.size = l.length := by simp
  have hB' := hB
  simp only [Region.lexB, Bool.and_eq_true] at hB'
  refine any_guarded_at hF heff hlast _ _ a w (by simp) (fun j oj hj hl => ?_) (fun t _ => getD_replicate_false _ _) (by rw [getD_replicate_false]; exact hC) (fun b => ?_)
  · rw [getD_replicate_false] at hl
    cases hl
  · have h1 := wpAnyQ_lex (C := C b) (md := .any) (ops := (mask n p cv 0 l).toArray) hB'.1 (mask n p cv 0 l) 0 (Array.replicate (mask n p cv 0 l).toArray.size false) a (by simp) (by simpa using hB'.2) (hwalk b)
    have h2 : (mask n p cv 0 l).length = l.toArray.size := by rw [mask_length, hsz]
    have h3 : (mask n p cv 0 l).toArray.size = l.toArray.size := by rw [List.size_toArray, h2]
    rw [h2, h3] at h1
    exact h1
end
set_option maxHeartbeats 4000000 in
theorem stored7 {W : World} {b : Nat} {t : TypeId} {p0 p1 p2 p3 p4 p5 p6 : Value} (g : W.heap[b]? = some (.cells #[p0, p1, p2, p3, p4, p5, p6] t (0, 0))) (x0 x1 x2 x3 x4 x5 x6 : Value) :
    (((((((W.setCell ⟨b, 0, none⟩ x0).setCell ⟨b, 1, none⟩ x1).setCell ⟨b, 2, none⟩ x2).setCell ⟨b, 3, none⟩ x3).setCell ⟨b, 4, none⟩ x4).setCell ⟨b, 5, none⟩ x5).setCell ⟨b, 6, none⟩ x6).heap[b]? = some (.cells #[x0, x1, x2, x3, x4, x5, x6] t (0, 0)) ∧ (∀ n W0, Below n W0 W → n ≤ b → Below n W0 (((((((W.setCell ⟨b, 0, none⟩ x0).setCell ⟨b, 1, none⟩ x1).setCell ⟨b, 2, none⟩ x2).setCell ⟨b, 3, none⟩ x3).setCell ⟨b, 4, none⟩ x4).setCell ⟨b, 5, none⟩ x5).setCell ⟨b, 6, none⟩ x6)) :=
  ⟨(Go.Proofs.YtmekjomfdomogaaW.PrintWords.blk_set (Go.Proofs.YtmekjomfdomogaaW.PrintWords.blk_set (Go.Proofs.YtmekjomfdomogaaW.PrintWords.blk_set (Go.Proofs.YtmekjomfdomogaaW.PrintWords.blk_set (Go.Proofs.YtmekjomfdomogaaW.PrintWords.blk_set (Go.Proofs.YtmekjomfdomogaaW.PrintWords.blk_set (Go.Proofs.YtmekjomfdomogaaW.PrintWords.blk_set g 0 _) 1 _) 2 _) 3 _) 4 _) 5 _) 6 _), fun n W0 hb hn => by
    have st : ∀ (A : World) (i : Nat) (u : Value), Below n W0 A → Below n W0 (A.setCell ⟨b, i, none⟩ u) := fun A i u hA => hA.setCell hn _
    exact (st _ _ _ (st _ _ _ (st _ _ _ (st _ _ _ (st _ _ _ (st _ _ _ (st _ _ _ hb)))))))⟩
end Go.Proofs.YtmekjomfdomogaaLift
