/-
  A region that draws its order, walked.
-/
import Derived.Test.YtbjlabokijchpaaA4
namespace Go.Proofs.YtbjlabokijchpaaA
set_option linter.unusedVariables false
open Go Go.RowKit
section
variable {F : Fence} {n : Nat} {P : Program} {N0 : AHeap} {ops : Array Oper} {tab : List Nat} {st : Nat → ASt} {c e : Nat} {L : Nat → Bool} {ρ : Ren} {a : Act} {w : World}
theorem ssa_uniq (hs : ssaOk ops tab = true) {i j : Nat} {t : Tmp} (hi : dstOf ops i = some t) (hj : dstOf ops j = some t) : i = j := by
  have hjs : j < ops.size := by
    by_cases h : j < ops.size
    · exact h
    · simp [dstOf, Array.getElem?_eq_none (Nat.le_of_not_lt h)] at hj
  have his : i < ops.size := by
    by_cases h : i < ops.size
    · exact h
    · simp [dstOf, Array.getElem?_eq_none (Nat.le_of_not_lt h)] at hi
  have h1 := List.all_eq_true.1 hs j (List.mem_range.2 hjs)
  rw [hj] at h1
  have h2 := List.all_eq_true.1 h1 i (List.mem_range.2 his)
  simp only [Bool.and_eq_true, Bool.or_eq_true, beq_iff_eq, bne_iff_ne] at h2
  rcases h2.1 with h3 | h3
  · exact h3
  · exact absurd hi h3
theorem ssa_read (hs : ssaOk ops tab = true) {i j : Nat} {t : Tmp} (hi : i < ops.size) (hr : t ∈ readsOf ops i) (hj : dstOf ops j = some t) : (j < i ∧ bit tab i j = true) ∨ (i < j ∧ bit tab j i = true) := by
  have hjs : j < ops.size := by
    by_cases h : j < ops.size
    · exact h
    · simp [dstOf, Array.getElem?_eq_none (Nat.le_of_not_lt h)] at hj
  have h1 := List.all_eq_true.1 hs j (List.mem_range.2 hjs)
  rw [hj] at h1
  have h2 := List.all_eq_true.1 h1 i (List.mem_range.2 hi)
  simp only [Bool.and_eq_true, Bool.or_eq_true, bne_iff_ne, decide_eq_true_eq, Bool.not_eq_true', List.contains_eq_mem, decide_eq_false_iff_not] at h2
  rcases h2.2 with h3 | ⟨_, h3⟩
  · exact absurd hr h3
  · exact h3
theorem Mid.read (hM : Mid P N0 ops st c e L ρ a w) (hch : Chain P ops st c e) (ht : tabOk ops tab = true) (hs : ssaOk ops tab = true) (hen : e ≤ ops.size) {i : Nat} (hi : c ≤ i) (hie : i < e) (hL : L i = false)
    (hd : ∀ k ∈ dp ops i, L k = true) {t : Tmp} (hr : t ∈ readsOf ops i) : VRel (res (st i).H.length ρ) ((st i).T t) (a.tmps.getD t undef) := by
  have hlo : ∀ j, j < c → L j = false → dstOf ops j ≠ some t := fun j hj hLj hdj => by
    rcases ssa_read hs (by omega) hr hdj with ⟨h1, h2⟩ | ⟨h1, h2⟩
    · rw [tab_listed ht hM.closed i (by omega) hd j (by omega) h2] at hLj; cases hLj
    · omega
  have base : (∀ j, c ≤ j → j < e → L j = true → dstOf ops j ≠ some t) → (∀ k, c ≤ k → k < i → dstOf ops k ≠ some t) → VRel (res (st i).H.length ρ) ((st i).T t) (a.tmps.getD t undef) := fun h1 h2 => by
    rw [chain_T hch (Nat.le_refl _) hi (by omega) h2]
    exact (hM.rest t h1 hlo).mono (res_mono (chain_le hch (Nat.le_refl _) hi (by omega)))
  by_cases hw : ∃ j, c ≤ j ∧ j < e ∧ dstOf ops j = some t
  · obtain ⟨j, hj1, hj2, hj3⟩ := hw
    rcases ssa_read hs (by omega) hr hj3 with ⟨h1, h2⟩ | ⟨h1, h2⟩
    · have hLj : L j = true := tab_listed ht hM.closed i (by omega) hd j (by omega) h2
      rw [chain_T hch (i := j + 1) (by omega) (by omega) (by omega) (fun k h3 h4 h5 => by have := ssa_uniq hs h5 hj3; omega)]
      exact (hM.done j t hj1 hj2 hLj hj3).mono (res_mono (chain_le hch (by omega) (by omega) (by omega)))
    · have hLj : L j = false := by
        cases e1 : L j with
        | false => rfl
        | true => rw [tab_listed ht hM.closed j (by omega) (hM.closed j e1) i (by omega) h2] at hL; cases hL
      refine base (fun j' h3 h4 h5 h6 => ?_) (fun k h3 h4 h5 => ?_)
      · rw [ssa_uniq hs h6 hj3, hLj] at h5; cases h5
      · have := ssa_uniq hs h5 hj3; omega
  · exact base (fun j h1 h2 _ h3 => hw ⟨j, h1, h2, h3⟩) (fun k h1 h2 h3 => hw ⟨k, h1, by omega, h3⟩)
/-- Behind a quiet operation. -/
theorem Mid.step (hM : Mid P N0 ops st c e L ρ a w) (hch : Chain P ops st c e) (hs : ssaOk ops tab = true) {i : Nat} (hi : c ≤ i) (hie : i < e) (hL : L i = false) (hd : ∀ k ∈ dp ops i, L k = true)
    {o : Oper} (ho : ops[i]? = some o) {v v' : Value} {Δ : AHeap} {ρ' : Ren} {w' : World} (hst : st (i + 1) = ASt.put { st i with H := (st i).H ++ Δ } o.dst v) (hdo : dOk (st i).nt o.dst)
    (hv : VRel ρ' v v') (hh : HRel ρ' ((st i).H ++ Δ) w') (hE : Ext (res (st i).H.length ρ) (st i).H w ρ' w') :
    ∃ ρn, Mid P N0 ops st c e (fun k => if k = i then true else L k) ρn (a.put o.dst v') w' ∧ Fr N0.length ρ (st e).H w ρn (st e).H w' := by
  have hH1 : (st (i + 1)).H = (st i).H ++ Δ := by rw [hst, ASt.put_H]
  have hle : (st i).H.length ≤ (st (i + 1)).H.length := by rw [hH1]; simp
  have hl1 : (st (i + 1)).H.length = ((st i).H ++ Δ).length := by rw [hH1]
  obtain ⟨ρn, hρn⟩ : ∃ ρn : Ren, ρn = fun b => if (st i).H.length ≤ b ∧ b < (st (i + 1)).H.length then ρ' b else ρ b := ⟨_, rfl⟩
  have n1 : ∀ b, b < (st i).H.length → ρn b = ρ b := fun b hb => by rw [hρn]; exact if_neg (by omega)
  have n1' : ∀ b, b < (st i).H.length → ρ' b = ρ b := fun b hb => by rw [hE.old b hb, res_lt hb]
  have n2 : ∀ b, (st i).H.length ≤ b → b < (st (i + 1)).H.length → ρn b = ρ' b := fun b h1 h2 => by rw [hρn]; exact if_pos ⟨h1, h2⟩
  have n3 : ∀ b, (st (i + 1)).H.length ≤ b → ρn b = ρ b := fun b hb => by rw [hρn]; exact if_neg (by omega)
  have n4 : ∀ b, ρ' b ≠ .none → b < (st (i + 1)).H.length := fun b hb => by
    by_cases e1 : b < (st (i + 1)).H.length
    · exact e1
    · exact absurd (hh.bound b (by omega)) hb
  have n5 : ∀ b, b < (st (i + 1)).H.length → ρn b = ρ' b := fun b hb => by
    by_cases e1 : b < (st i).H.length
    · rw [n1 b e1, n1' b e1]
    · exact n2 b (by omega) hb
  have n6 : ∀ b, ρ b ≠ .none → ρn b = ρ b := fun b hb => by
    by_cases e1 : b < (st i).H.length
    · exact n1 b e1
    · by_cases e2 : b < (st (i + 1)).H.length
      · exact absurd (hM.unl i hi hie hL b (by omega) e2) hb
      · exact n3 b (by omega)
  have rm : ∀ m b, res m ρ b ≠ .none → res m ρn b = res m ρ b ∨ res m ρn b = .dead := fun m b hb => by
    by_cases e1 : b < m
    · rw [res_lt e1] at hb; exact .inl (by rw [res_lt e1, res_lt e1]; exact n6 b hb)
    · exact absurd (res_ge (by omega)) hb
  refine ⟨ρn, ?_, ?_⟩
  · have hLL : ∀ k, (if k = i then true else L k) = false → L k = false := fun k h => by
      by_cases e1 : k = i
      · rw [if_pos e1] at h; cases h
      · rwa [if_neg e1] at h
    refine ⟨?_, ?_, fun i' j' h1 h2 h3 h4 => hM.late i' j' h1 h2 (hLL _ h3) (hLL _ h4), ?_, ?_, ?_, ?_, ?_, ?_, ?_, ?_, hM.len, hM.entry.of fun b hb => .inl (n1 b (by have := hM.len; have := chain_le hch (Nat.le_refl _) hi (by omega); omega))⟩
    · -- closed
      intro k hk k' hk'
      try dsimp only at hk ⊢
      by_cases e1 : k = i
      · subst e1
        by_cases e2 : k' = k
        · rw [if_pos e2]
        · rw [if_neg e2]; exact hd k' hk'
      · rw [if_neg e1] at hk
        by_cases e2 : k' = i
        · rw [if_pos e2]
        · rw [if_neg e2]; exact hM.closed k hk k' hk'
    · intro k hk hLk
      try dsimp only at hLk
      rw [if_neg (by omega)] at hLk; exact hM.pend k hk hLk
    · intro k hk
      try dsimp only
      rw [if_neg (by omega)]; exact hM.high k hk
    · -- heap
      intro k hk hke
      have hMk := hM.heap k hk hke
      have old : ∀ b l, res (st k).H.length ρn b = .at l → b < (st k).H.length ∧ ρn b = .at l := fun b l hb => by
        by_cases e1 : b < (st k).H.length
        · exact ⟨e1, by rw [res_lt e1] at hb; exact hb⟩
        · rw [res_ge (by omega)] at hb; cases hb
      have cls : ∀ b l, b < (st k).H.length → ρn b = .at l → (res (st k).H.length ρ b = .at l ∧ ((st i).H.length ≤ b → (st (i + 1)).H.length ≤ b)) ∨ ((st i).H.length ≤ b ∧ b < (st (i + 1)).H.length ∧ ρ' b = .at l ∧ i + 1 ≤ k) := fun b l h1 h2 => by
        by_cases e1 : (st i).H.length ≤ b ∧ b < (st (i + 1)).H.length
        · refine .inr ⟨e1.1, e1.2, by rw [← n2 b e1.1 e1.2]; exact h2, ?_⟩
          by_cases e2 : i + 1 ≤ k
          · exact e2
          · have := chain_le hch hk (show k ≤ i by omega) (by omega)
            omega
        · refine .inl ⟨?_, fun h => by omega⟩
          rw [res_lt h1]
          rw [hρn] at h2
          try dsimp only at h2
          rw [if_neg e1] at h2; exact h2
      have getk : ∀ b, i + 1 ≤ k → b < (st (i + 1)).H.length → (st k).H[b]? = ((st i).H ++ Δ)[b]? := fun b h1 h2 => by
        rw [chain_get hch (by omega) h1 hke h2, hH1]
      have getk' : ∀ b, b < (st i).H.length → b < (st k).H.length → ((st i).H ++ Δ)[b]? = (st k).H[b]? := fun b h1 h2 => by
        rw [List.getElem?_append_left h1]
        by_cases e1 : i ≤ k
        · exact (chain_get hch hi e1 hke h1).symm
        · exact chain_get hch hk (by omega) (by omega) h2
      refine ⟨fun b hb => res_ge hb, fun b l hb => ?_, fun b b2 l m hne hb hb2 hw => ?_, fun g vs sz hg => ?_, fun b hb => ?_⟩
      · obtain ⟨h1, h2⟩ := old b l hb
        rcases cls b l h1 h2 with ⟨h3, h4⟩ | ⟨h3, h4, h5, h6⟩
        · obtain ⟨o2, q1, q2, q3⟩ := hMk.rel b l h3
          refine ⟨o2, q1, Nat.lt_of_lt_of_le q2 hE.size, ?_⟩
          by_cases e1 : b < (st i).H.length
          · have hb' : ρ' b = .at l := by rw [n1' b e1]; rw [res_lt h1] at h3; exact h3
            obtain ⟨o3, q4, q5, q6⟩ := hh.rel b l hb'
            rw [getk' b e1 h1, q1] at q4
            cases q4
            refine (q3.cut (m := (st k).H.length) (fun b hb => res_ge hb) q6).mono (fun b' hb' => ?_) rfl
            by_cases e2 : b' < (st k).H.length
            · rw [res_lt e2] at hb'
              exact .inl (by rw [res_lt e2, res_lt e2]; exact n5 b' (n4 b' hb'))
            · exact absurd (res_ge (by omega)) hb'
          · have hge := h4 (by omega)
            have hki : i + 1 ≤ k := by
              by_cases e2 : i + 1 ≤ k
              · exact e2
              · have := chain_le hch hk (show k ≤ i by omega) (by omega)
                omega
            refine q3.mono (rm _) (hE.keep l.blk q2 ?_)
            rintro ⟨b2, l2, p1, p2, o3, p3, p4⟩
            have hb2 : b2 < (st i).H.length := (List.getElem?_eq_some_iff.1 p3).1
            have hb2k : b2 < (st k).H.length := by omega
            refine hMk.inj b2 b l2 l (by omega) ?_ h3 ⟨o3, ?_, p4⟩ p2
            · rw [res_lt hb2] at p1; rw [res_lt hb2k]; exact p1
            · rw [← getk' b2 hb2 hb2k, List.getElem?_append_left hb2]; exact p3
        · obtain ⟨o2, q1, q2, q3⟩ := hh.rel b l h5
          refine ⟨o2, by rw [getk b h6 h4]; exact q1, q2, q3.mono (fun b' hb' => .inl ?_) rfl⟩
          have := n4 b' hb'
          have hle2 := chain_le hch (show c ≤ i + 1 by omega) h6 hke
          rw [res_lt (by omega)]
          exact n5 b' this
      · obtain ⟨h1, h2⟩ := old b l hb
        obtain ⟨k1, k2⟩ := old b2 m hb2
        rcases cls b l h1 h2 with ⟨h3, h4⟩ | ⟨h3, h4, h5, h6⟩ <;> rcases cls b2 m k1 k2 with ⟨k3, k4⟩ | ⟨k3, k4, k5, k6⟩
        · exact hMk.inj b b2 l m hne h3 k3 hw
        · have q1 := hE.fresh b2 m k3 k5
          obtain ⟨o2, _, q2, _⟩ := hMk.rel b l h3
          omega
        · have q1 := hE.fresh b l h3 h5
          obtain ⟨o2, _, q2, _⟩ := hMk.rel b2 m k3
          omega
        · refine hh.inj b b2 l m hne h5 k5 ?_
          obtain ⟨o2, p1, p2⟩ := hw
          exact ⟨o2, by rw [← getk b h6 h4]; exact p1, p2⟩
      · obtain ⟨l, q1, q2, q3⟩ := hMk.glob g vs sz hg
        have hgk : g < (st k).H.length := (List.getElem?_eq_some_iff.1 hg).1
        refine ⟨l, ?_, q2, q3⟩
        rw [res_lt hgk] at q1 ⊢
        rw [n6 g (by rw [q1]; simp)]; exact q1
      · have hbk : b < (st k).H.length := by
          by_cases e1 : b < (st k).H.length
          · exact e1
          · rw [res_ge (by omega)] at hb; cases hb
        rw [res_lt hbk] at hb
        by_cases e1 : (st i).H.length ≤ b ∧ b < (st (i + 1)).H.length
        · rw [n2 b e1.1 e1.2] at hb
          have hki : i + 1 ≤ k := by
            by_cases e2 : i + 1 ≤ k
            · exact e2
            · have := chain_le hch hk (show k ≤ i by omega) (by omega)
              omega
          rw [getk b hki e1.2]
          exact hh.isdead b hb
        · refine hMk.isdead b ?_
          rw [res_lt hbk]
          rw [hρn] at hb
          try dsimp only at hb
          rw [if_neg e1] at hb; exact hb
    · intro b hb
      have := chain_le hch (show c ≤ i + 1 by omega) (show i + 1 ≤ e by omega) (Nat.le_refl _)
      rw [n3 b (by omega)]; exact hM.bound b hb
    · intro j h1 h2 h3 b h4 h5
      try dsimp only at h3
      by_cases e1 : j = i
      · rw [if_pos e1] at h3; cases h3
      · rw [if_neg e1] at h3
        have h6 := hM.unl j h1 h2 h3 b h4 h5
        by_cases e2 : j < i
        · have := chain_le hch (show c ≤ j + 1 by omega) (show j + 1 ≤ i by omega) (by omega)
          rw [n1 b (by omega)]; exact h6
        · have := chain_le hch (show c ≤ i + 1 by omega) (show i + 1 ≤ j by omega) (by omega)
          rw [n3 b (by omega)]; exact h6
    · have := hM.size
      cases o.dst <;> simpa [Act.put] using this
    · intro j t h1 h2 h3 h4
      try dsimp only at h3
      by_cases e1 : j = i
      · subst e1
        have hd' : o.dst = some t := by simpa [dstOf, ho] using h4
        rw [hst, hd']
        have hlt : t < a.tmps.size := by
          rw [hd'] at hdo
          obtain ⟨_, _, _, hnt⟩ := chain_len hch (Nat.le_refl _) hi (by omega)
          rw [hM.size, ← hnt]; exact hdo
        have hval : (a.put (some t) v').tmps.getD t undef = v' := by simp [Act.put, hlt]
        rw [hval]
        show VRel _ (upd _ t v t) v'
        rw [upd_same]
        refine hv.mono (fun b hb => .inl ?_)
        have := n4 b hb
        show res ((st j).H ++ Δ).length ρn b = ρ' b
        rw [← hl1, res_lt this]
        exact n5 b this
      · rw [if_neg e1] at h3
        have hne : o.dst ≠ some t := fun h5 => e1 (ssa_uniq hs h4 (by simpa [dstOf, ho] using h5))
        have hval : (a.put o.dst v').tmps.getD t undef = a.tmps.getD t undef := by
          cases hd' : o.dst with
          | none => rfl
          | some d => simp [Act.put, Array.getElem?_setIfInBounds, show d ≠ t from fun h => hne (by rw [hd', h])]
        rw [hval]
        exact (hM.done j t h1 h2 h3 h4).mono (rm _)
    · intro t h1 h1'
      have hne : o.dst ≠ some t := fun h5 => h1 i hi hie (by simp) (by simpa [dstOf, ho] using h5)
      have hval : (a.put o.dst v').tmps.getD t undef = a.tmps.getD t undef := by
        cases hd' : o.dst with
        | none => rfl
        | some d => simp [Act.put, Array.getElem?_setIfInBounds, show d ≠ t from fun h => hne (by rw [hd', h])]
      rw [hval]
      refine (hM.rest t (fun j h2 h3 h4 => h1 j h2 h3 ?_) (fun j h2 h3 => h1' j h2 (by (try dsimp only); rw [if_neg (by omega)]; exact h3))).mono (rm _)
      try dsimp only
      by_cases e1 : j = i
      · rw [if_pos e1]
      · rw [if_neg e1]; exact h4
    · have hdf : (a.put o.dst v').defers = a.defers := by cases o.dst <;> rfl
      rw [hdf]
      refine DRel.mono (fun b hb => ⟨?_, rfl⟩) _ _ hM.defers
      have hbc : b < (st c).H.length := by
        by_cases e1 : b < (st c).H.length
        · exact e1
        · exact absurd (res_ge (by omega)) hb
      have := chain_le hch (Nat.le_refl _) hi (by omega)
      rw [res_lt hbc, res_lt hbc, n1 b (by omega)]
  · have hce := chain_le hch (Nat.le_refl _) hi (by omega)
    refine ⟨hE.os, hE.tape, hE.output, hE.size, fun k hk ho => hE.keep k hk ?_, fun b hb => .inl (n1 b (by have := hM.len; omega)), fun b l' hb hw => ?_⟩
    · rintro ⟨b2, l2, p1, p2, o3, p3, p4⟩
      have hb2 : b2 < (st i).H.length := (List.getElem?_eq_some_iff.1 p3).1
      refine ho ⟨b2, l2, by rw [res_lt hb2] at p1; exact p1, p2, o3, ?_, p4⟩
      rw [chain_get hch hi (by omega) (Nat.le_refl _) hb2]; exact p3
    · by_cases e1 : (st i).H.length ≤ b ∧ b < (st (i + 1)).H.length
      · rw [n2 b e1.1 e1.2] at hb
        exact .inr (hE.fresh b l' e1.1 hb)
      · rw [hρn] at hb
        try dsimp only at hb
        rw [if_neg e1] at hb
        exact .inl ⟨b, l', hb, rfl, hw⟩
/-- What a late operation reads. -/
theorem Mid.readP (hM : Mid P N0 ops st c e L ρ a w) (ht : tabOk ops tab = true) (hs : ssaOk ops tab = true) (hen : e ≤ ops.size) (hce : c ≤ e) {i : Nat} (hi : i < c) (hL : L i = false)
    (hd : ∀ k ∈ dp ops i, L k = true) {t : Tmp} (hr : t ∈ readsOf ops i) : VRel (res (st c).H.length ρ) ((st c).T t) (a.tmps.getD t undef) := by
  refine hM.rest t (fun j h1 h2 h3 h4 => ?_) (fun j hj hLj hdj => ?_)
  · rcases ssa_read hs (by omega) hr h4 with ⟨h5, h6⟩ | ⟨h5, h6⟩
    · omega
    · rw [tab_listed ht hM.closed j (by omega) (hM.closed j h3) i (by omega) h6] at hL; cases hL
  · rcases ssa_read hs (by omega) hr hdj with ⟨h5, h6⟩ | ⟨h5, h6⟩
    · rw [tab_listed ht hM.closed i (by omega) hd j (by omega) h6] at hLj; cases hLj
    · exact hM.late i j h5 hj hL hLj t hr hdj
/-- Behind a late one. -/
theorem Mid.stepP (hM : Mid P N0 ops st c e L ρ a w) (hch : Chain P ops st c e) (hs : ssaOk ops tab = true) (hce : c ≤ e) {i : Nat} (hi : i < c) (hL : L i = false) (hd : ∀ k ∈ dp ops i, L k = true)
    {o : Oper} (ho : ops[i]? = some o) {v v' : Value} {ρ' : Ren} {w' : World} (hdo : dOk (st c).nt o.dst) (hval : ∀ d, o.dst = some d → (st c).T d = v)
    (hv : VRel ρ' v v') (hh : HRel ρ' (st c).H w') (hE : Ext (res (st c).H.length ρ) (st c).H w ρ' w') :
    Mid P N0 ops st c e (fun k => if k = i then true else L k) ρ (a.put o.dst v') w' ∧ Fr N0.length ρ (st e).H w ρ (st e).H w' := by
  have n1 : ∀ b, b < (st c).H.length → ρ' b = ρ b := fun b hb => by rw [hE.old b hb, res_lt hb]
  have n4 : ∀ b, ρ' b ≠ .none → b < (st c).H.length := fun b hb => by
    by_cases e1 : b < (st c).H.length
    · exact e1
    · exact absurd (hh.bound b (by omega)) hb
  have hLL : ∀ k, (if k = i then true else L k) = false → L k = false := fun k h => by
    by_cases e1 : k = i
    · rw [if_pos e1] at h; cases h
    · rwa [if_neg e1] at h
  refine ⟨⟨?_, ?_, fun i' j' h1 h2 h3 h4 => hM.late i' j' h1 h2 (hLL _ h3) (hLL _ h4), ?_, ?_, hM.bound, ?_, ?_, ?_, ?_, ?_, hM.len, hM.entry⟩, ?_⟩
  · intro k hk k' hk'
    try dsimp only at hk ⊢
    by_cases e1 : k = i
    · subst e1
      by_cases e2 : k' = k
      · rw [if_pos e2]
      · rw [if_neg e2]; exact hd k' hk'
    · rw [if_neg e1] at hk
      by_cases e2 : k' = i
      · rw [if_pos e2]
      · rw [if_neg e2]; exact hM.closed k hk k' hk'
  · intro k hk hLk
    try dsimp only at hLk
    by_cases e1 : k = i
    · rw [if_pos e1] at hLk; cases hLk
    · rw [if_neg e1] at hLk; exact hM.pend k hk hLk
  · intro k hk
    try dsimp only
    rw [if_neg (by omega)]; exact hM.high k hk
  · intro k hk hke
    have hMk := hM.heap k hk hke
    have hck := chain_le hch (Nat.le_refl _) hk hke
    have getk : ∀ b, b < (st c).H.length → (st k).H[b]? = (st c).H[b]? := fun b hb => chain_get hch (Nat.le_refl _) hk hke hb
    refine ⟨fun b hb => res_ge hb, fun b l hb => ?_, hMk.inj, hMk.glob, hMk.isdead⟩
    have hbk : b < (st k).H.length := by
      by_cases e1 : b < (st k).H.length
      · exact e1
      · rw [res_ge (by omega)] at hb; cases hb
    obtain ⟨o2, q1, q2, q3⟩ := hMk.rel b l hb
    refine ⟨o2, q1, Nat.lt_of_lt_of_le q2 hE.size, ?_⟩
    by_cases e1 : b < (st c).H.length
    · have hb' : ρ' b = .at l := by rw [n1 b e1]; rw [res_lt hbk] at hb; exact hb
      obtain ⟨o3, q4, q5, q6⟩ := hh.rel b l hb'
      rw [← getk b e1, q1] at q4
      cases q4
      refine (q3.cut (m := (st k).H.length) (fun b hb => res_ge hb) q6).mono (fun b' hb' => ?_) rfl
      by_cases e2 : b' < (st k).H.length
      · rw [res_lt e2] at hb'
        exact .inl (by rw [res_lt e2, res_lt e2]; exact (n1 b' (n4 b' hb')).symm)
      · exact absurd (res_ge (by omega)) hb'
    · refine q3.mono (fun _ _ => .inl rfl) (hE.keep l.blk q2 ?_)
      rintro ⟨b2, l2, p1, p2, o3, p3, p4⟩
      have hb2 : b2 < (st c).H.length := (List.getElem?_eq_some_iff.1 p3).1
      refine hMk.inj b2 b l2 l (by omega) ?_ hb ⟨o3, by rw [getk b2 hb2]; exact p3, p4⟩ p2
      rw [res_lt hb2] at p1; rw [res_lt (by omega)]; exact p1
  · intro j h1 h2 h3 b h4 h5
    try dsimp only at h3
    rw [if_neg (by omega)] at h3
    exact hM.unl j h1 h2 h3 b h4 h5
  · have := hM.size
    cases o.dst <;> simpa [Act.put] using this
  · intro j t h1 h2 h3 h4
    try dsimp only at h3
    rw [if_neg (by omega)] at h3
    have hne : o.dst ≠ some t := fun h5 => by
      have := ssa_uniq hs h4 (show dstOf ops i = some t by simpa [dstOf, ho] using h5)
      omega
    have hv' : (a.put o.dst v').tmps.getD t undef = a.tmps.getD t undef := by
      cases hd' : o.dst with
      | none => rfl
      | some d => simp [Act.put, Array.getElem?_setIfInBounds, show d ≠ t from fun h => hne (by rw [hd', h])]
    rw [hv']
    exact hM.done j t h1 h2 h3 h4
  · intro t h1 h1'
    by_cases e1 : o.dst = some t
    · have hlt : t < a.tmps.size := by
        rw [e1] at hdo
        rw [hM.size]; exact hdo
      rw [e1]
      have hv' : (a.put (some t) v').tmps.getD t undef = v' := by simp [Act.put, hlt]
      rw [hv', hval t e1]
      exact hv.mono fun b hb => .inl (by rw [res_lt (n4 b hb)]; exact (n1 b (n4 b hb)).symm)
    · have hv' : (a.put o.dst v').tmps.getD t undef = a.tmps.getD t undef := by
        cases hd' : o.dst with
        | none => rfl
        | some d => simp [Act.put, Array.getElem?_setIfInBounds, show d ≠ t from fun h => e1 (by rw [hd', h])]
      rw [hv']
      refine hM.rest t (fun j h2 h3 h4 => h1 j h2 h3 (by (try dsimp only); rw [if_neg (by omega)]; exact h4)) (fun j h2 h3 h4 => ?_)
      by_cases e2 : j = i
      · subst e2; exact e1 (by simpa [dstOf, ho] using h4)
      · exact h1' j h2 (by (try dsimp only); rw [if_neg e2]; exact h3) h4
  · have hdf : (a.put o.dst v').defers = a.defers := by cases o.dst <;> rfl
    rw [hdf]
    exact hM.defers
  · have hce' := chain_le hch (Nat.le_refl _) hce (Nat.le_refl _)
    refine ⟨hE.os, hE.tape, hE.output, hE.size, fun k hk ho => hE.keep k hk ?_, fun b hb => .inl rfl, fun b l' hb hw => .inl ⟨b, l', hb, rfl, hw⟩⟩
    rintro ⟨b2, l2, p1, p2, o3, p3, p4⟩
    have hb2 : b2 < (st c).H.length := (List.getElem?_eq_some_iff.1 p3).1
    refine ho ⟨b2, l2, by rw [res_lt hb2] at p1; exact p1, p2, o3, ?_, p4⟩
    rw [chain_get hch (Nat.le_refl _) hce (Nat.le_refl _) hb2]; exact p3
/-- The slots, those of what is late being unknown. -/
theorem Mid.finishJ (hM : Mid P N0 ops st c e L ρ a w) (hch : Chain P ops st c e) (hs : ssaOk ops tab = true) (hce : c ≤ e) {T' : Nat → Value} (hT' : ∀ t, (∀ j, j < e → L j = false → dstOf ops j ≠ some t) → T' t = (st e).T t) (hJ : ∀ t, (∃ j, j < e ∧ L j = false ∧ dstOf ops j = some t) → T' t = junk) : SRel N0 ρ { st e with T := T' } a w := by
  have hres : res (st e).H.length ρ = ρ := funext fun b => by
    by_cases e1 : b < (st e).H.length
    · exact res_lt e1
    · rw [res_ge (by omega), hM.bound b (by omega)]
  have hm : ∀ m b, res m ρ b ≠ .none → ρ b = res m ρ b ∨ ρ b = .dead := fun m b hb => by
    by_cases e1 : b < m
    · exact .inl (res_lt e1).symm
    · exact absurd (res_ge (by omega)) hb
  obtain ⟨Δ, q1, q2, q3⟩ := chain_len hch (Nat.le_refl _) hce (Nat.le_refl _)
  refine ⟨by have := hM.heap e hce (Nat.le_refl _); rwa [hres] at this, ⟨by show _ = (st e).nt; rw [q3]; exact hM.size, fun t => ?_⟩, ?_, ?_, ?_⟩
  · show VRel ρ (T' t) _
    by_cases hw0 : ∃ j, j < e ∧ L j = false ∧ dstOf ops j = some t
    · rw [hJ t hw0]; exact .junk _ _
    · have hno : ∀ j, j < e → L j = false → dstOf ops j ≠ some t := fun j h1 h2 h3 => hw0 ⟨j, h1, h2, h3⟩
      rw [hT' t hno]
      by_cases hw : ∃ j, c ≤ j ∧ j < e ∧ dstOf ops j = some t
      · obtain ⟨j, h1, h2, h3⟩ := hw
        have hLj : L j = true := by
          cases h : L j with
          | true => rfl
          | false => exact absurd h3 (hno j h2 h)
        rw [chain_T hch (i := j + 1) (by omega) (by omega) (Nat.le_refl _) (fun k h4 h5 h6 => by have := ssa_uniq hs h6 h3; omega)]
        exact (hM.done j t h1 h2 hLj h3).mono (hm _)
      · rw [chain_T hch (Nat.le_refl _) hce (Nat.le_refl _) (fun k h1 h2 h3 => hw ⟨k, h1, h2, h3⟩)]
        exact (hM.rest t (fun j h1 h2 _ h3 => hw ⟨j, h1, h2, h3⟩) (fun j h1 h2 => hno j (by omega) h2)).mono (hm _)
  · show DRel ρ (st e).H (st e).D a.defers
    rw [q2]
    refine DRel.mono (fun b hb => ?_) _ _ hM.defers
    have hbc : b < (st c).H.length := by
      by_cases e1 : b < (st c).H.length
      · exact e1
      · exact absurd (res_ge (by omega)) hb
    exact ⟨(res_lt hbc).symm, by rw [q1, List.getElem?_append_left hbc]⟩
  · show N0.length ≤ (st e).H.length
    rw [q1]; simp; have := hM.len; omega
  · exact hM.entry
theorem Mid.finish (hM : Mid P N0 ops st c e L ρ a w) (hch : Chain P ops st c e) (hs : ssaOk ops tab = true) (hce : c ≤ e) (hall : ∀ j, j < e → L j = true) : SRel N0 ρ (st e) a w :=
  hM.finishJ hch hs hce (T' := (st e).T) (fun _ _ => rfl) fun t ⟨j, h1, h2, _⟩ => by rw [hall j h1] at h2; cases h2

/-! ### The theorem -/
def Lof (listed : Array Bool) : Nat → Bool := fun i => listed.getD i false
theorem lof_set {listed : Array Bool} {i : Nat} (hi : i < listed.size) : Lof (listed.setIfInBounds i true) = fun k => if k = i then true else Lof listed k := by
  funext k
  unfold Lof
  by_cases e1 : k = i
  · subst e1; simp [hi]
  · simp [Array.getElem?_setIfInBounds, Ne.symm e1, e1]
theorem ready_mem {listed : Array Bool} (hsz : listed.size = ops.size) {i : Nat} (h : i ∈ Region.ready .any ops listed) : i < ops.size ∧ Lof listed i = false ∧ ∀ k ∈ dp ops i, Lof listed k = true := by
  unfold Region.ready at h
  rw [List.mem_filter, List.mem_range] at h
  obtain ⟨h1, h2⟩ := h
  simp only [Bool.and_eq_true, Bool.not_eq_true'] at h2
  refine ⟨h1, ?_, fun k hk => ?_⟩
  · have := h2.1
    unfold Lof
    simpa [show i < listed.size by omega] using this
  · have h3 := h2.2
    unfold dp at hk
    cases ho : ops[i]? with
    | none => rw [ho] at hk; simp at hk
    | some o =>
      rw [ho] at h3 hk
      simp only [Option.map_some, Option.getD_some, List.mem_filterMap] at h3 hk
      obtain ⟨ed, he1, he2⟩ := hk
      split at he2
      · rename_i hb
        cases he2
        have := (Array.all_eq_true_iff_forall_mem.1 h3) ed (by simpa using he1)
        simp only [hb, Bool.not_true, Bool.false_or] at this
        exact this
      · cases he2
theorem ready_of {listed : Array Bool} (hsz : listed.size = ops.size) {i : Nat} (h1 : i < ops.size) (h2 : Lof listed i = false) (h3 : ∀ k ∈ dp ops i, Lof listed k = true) : i ∈ Region.ready .any ops listed := by
  unfold Region.ready
  rw [List.mem_filter, List.mem_range]
  refine ⟨h1, ?_⟩
  simp only [Bool.and_eq_true, Bool.not_eq_true']
  refine ⟨by unfold Lof at h2; simpa [show i < listed.size by omega] using h2, ?_⟩
  rw [Array.getElem?_eq_getElem h1]
  simp only [Option.map_some, Option.getD_some]
  rw [Array.all_eq_true_iff_forall_mem]
  intro ed hed
  cases hb : Region.binds .any ed with
  | false => rfl
  | true =>
    simp only [Bool.not_true, Bool.false_or]
    refine h3 ed.on ?_
    unfold dp
    rw [Array.getElem?_eq_getElem h1]
    simp only [Option.map_some, Option.getD_some, List.mem_filterMap]
    exact ⟨ed, by simpa using hed, by rw [hb]; rfl⟩
theorem dp_lt (ht : tabOk ops tab = true) {i k : Nat} (hi : i < ops.size) (hk : k ∈ dp ops i) : k < i := by
  have h1 := List.all_eq_true.1 ht i (List.mem_range.2 hi)
  simp only [Bool.and_eq_true] at h1
  have := List.all_eq_true.1 h1.1 k hk
  simpa using this
def left (ops : Array Oper) (L : Nat → Bool) : Nat := ((List.range ops.size).filter fun i => !L i).length
theorem left_set {L : Nat → Bool} {i : Nat} (hi : i < ops.size) (hL : L i = false) : left ops L = left ops (fun k => if k = i then true else L k) + 1 := by
  unfold left
  have key : ∀ (l : List Nat), l.Nodup → i ∈ l → (l.filter fun k => !L k).length = (l.filter fun k => !(if k = i then true else L k)).length + 1 := by
    intro l
    induction l with
    | nil => intro _ h; simp at h
    | cons x l ih =>
      intro hnd hm
      obtain ⟨hx, hnd'⟩ := List.nodup_cons.1 hnd
      by_cases e1 : x = i
      · subst e1
        have h2 : (l.filter fun k => !L k) = (l.filter fun k => !(if k = x then true else L k)) := List.filter_congr fun y hy => by
          have : y ≠ x := fun h => hx (h ▸ hy)
          simp [this]
        simp [List.filter_cons, hL, h2]
      · have hm' : i ∈ l := by
          rcases List.mem_cons.1 hm with h | h
          · exact absurd h.symm e1
          · exact h
        have := ih hnd' hm'
        simp only [List.filter_cons, if_neg e1]
        split <;> simp [this]
  exact key _ List.nodup_range (List.mem_range.2 hi)
theorem gval_read {i j : Nat} {o : Oper} {want : Bool} (ho : ops[i]? = some o) (hg : o.guard = some (j, want)) {d : Tmp} (hd : dstOf ops j = some d) : d ∈ readsOf ops i := by
  unfold readsOf
  rw [ho]
  simp only [Option.map_some, Option.getD_some, Oper.looksAt, hg]
  refine List.mem_append_right _ ?_
  unfold dstOf at hd
  rw [hd]; simp
theorem operand_read {i : Nat} {o : Oper} (ho : ops[i]? = some o) {t : Tmp} (ht : Operand.tmp t ∈ o.op.operands) : t ∈ readsOf ops i := by
  unfold readsOf
  rw [ho]
  simp only [Option.map_some, Option.getD_some, Oper.looksAt]
  refine List.mem_append_left _ (List.mem_filterMap.2 ⟨.tmp t, by simpa using ht, rfl⟩)
theorem any_sound (hF : Wd F) (ht : tabOk ops tab = true) (hs : ssaOk ops tab = true) {K : ASt → Prop} {R : Exit → Act → World → Prop} (hx : ¬ LetsOut R) (ρs : Ren) (Hs : AHeap) (ws : World)
    (hR : ∀ s' ρ' a' w', K s' → SRel N0 ρ' s' a' w' → Fr N0.length ρs Hs ws ρ' s'.H w' → R .normal a' w') :
    ∀ (fuel : Nat) (listed : Array Bool) (ρ : Ren) (a : Act) (w : World) (st : Nat → ASt) (c e : Nat), listed.size = ops.size → left ops (Lof listed) = fuel → c ≤ e → Chain P ops st c e → Mid P N0 ops st c e (Lof listed) ρ a w →
      Fr N0.length ρs Hs ws ρ (st e).H w →
      ((e = ops.size ∧ K (st e)) ∨ (∃ o rest, ops[e]? = some o ∧ (∀ j, rest[j]? = ops[e + 1 + j]?) ∧ EffAt F n P N0 ops tab e o (dList F n P N0 ops tab (e + 1) rest K) (st e))) →
      wpAnyIn F n P .any ops R fuel listed a w := by
  intro fuel
  induction fuel with
  | zero =>
    intro listed ρ a w st c e hsz hlf hce hch hM hf hend
    have hall : ∀ i, i < ops.size → Lof listed i = true := fun i hi => by
      cases h : Lof listed i with
      | true => rfl
      | false =>
        have : i ∈ (List.range ops.size).filter fun i => !Lof listed i := List.mem_filter.2 ⟨List.mem_range.2 hi, by rw [h]; rfl⟩
        unfold left at hlf
        rw [List.length_eq_zero_iff.1 hlf] at this
        simp at this
    rcases hend with ⟨h1, h2⟩ | ⟨o, rest, h1, _⟩
    · refine ⟨?_, hR _ ρ a w h2 (hM.finish hch hs hce fun j hj => hall j (by omega)) hf⟩
      refine List.filter_eq_nil_iff.2 fun i hi => ?_
      have := hall i (List.mem_range.1 hi)
      have hi' : i < listed.size := by rw [hsz]; exact List.mem_range.1 hi
      unfold Lof at this
      simp [hi'] at this
      simp [hi', this]
    · have he : e < ops.size := (Array.getElem?_eq_some_iff.1 h1).1
      have h2 := hM.high e (Nat.le_refl _)
      rw [hall e he] at h2; cases h2
  | succ fuel ih =>
    intro listed ρ a w st c e hsz hlf hce hch hM hf hend
    have hen : e ≤ ops.size := by
      rcases hend with ⟨h1, _⟩ | ⟨o, rest, h1, _⟩
      · omega
      · exact Nat.le_of_lt (Array.getElem?_eq_some_iff.1 h1).1
    refine ⟨fun hnil => ?_, fun i hi => ?_⟩
    · exfalso
      -- the first one that is not listed is ready
      obtain ⟨m, hm, hmin⟩ := exists_least (fun i => i < ops.size ∧ Lof listed i = false) (by
        refine Classical.byContradiction fun hno => ?_
        have : (List.range ops.size).filter (fun i => !Lof listed i) = [] := List.filter_eq_nil_iff.2 fun i hi => by
          cases h : Lof listed i with
          | true => simp
          | false => exact absurd ⟨i, List.mem_range.1 hi, h⟩ hno
        unfold left at hlf
        rw [this] at hlf
        simp at hlf)
      have : m ∈ Region.ready .any ops listed := ready_of hsz hm.1 hm.2 fun k hk => by
        have hkm := dp_lt ht hm.1 hk
        cases h : Lof listed k with
        | true => rfl
        | false => have := hmin k ⟨by omega, h⟩; omega
      rw [hnil] at this
      simp at this
    · obtain ⟨hin, hLi, hdi⟩ := ready_mem hsz hi
      have hlf' : left ops (Lof (listed.setIfInBounds i true)) = fuel := by
        rw [lof_set (by omega)]
        have := left_set hin hLi
        omega
      have hsz' : (listed.setIfInBounds i true).size = ops.size := by simpa using hsz
      -- a quiet one, early or late
      have key : ∀ (sp : ASt) (o : Oper) (v : Value) (Δ : AHeap), ops[i]? = some o → HRel (res sp.H.length ρ) sp.H w → (∀ t, t ∈ readsOf ops i → VRel (res sp.H.length ρ) (sp.T t) (a.tmps.getD t undef)) →
          ((GYes ops o sp.T ∧ OpQ P o sp.T sp.H v Δ ∧ ∀ x ∈ o.op.operands, cOk sp.H x) ∨ (GNo ops o sp.T ∧ v = undef ∧ Δ = [])) →
          (∀ v' ρ' w', VRel ρ' v v' → HRel ρ' (sp.H ++ Δ) w' → Ext (res sp.H.length ρ) sp.H w ρ' w' → wpAnyIn F n P .any ops R fuel (listed.setIfInBounds i true) (a.put o.dst v') w') →
          wpOpIn F n P ops R i (wpAnyIn F n P .any ops R fuel (listed.setIfInBounds i true)) a w := by
        intro sp o v Δ ho hheap rd0 hor cont
        have rd := fun {t : Tmp} (hr : t ∈ readsOf ops i) => rd0 t hr
        unfold wpOpIn
        simp only [ho]
        have hgv : ∀ j want, o.guard = some (j, want) → (∀ b, gval ops sp.T j = .bool b → yielded ops a.tmps j = some b) ∧ (gval ops sp.T j = undef → yielded ops a.tmps j = none) := by
          intro j want hg
          have hT : ∀ d, dstOf ops j = some d → VRel (res sp.H.length ρ) (sp.T d) (a.tmps.getD d undef) := fun d hd => rd (gval_read ho hg hd)
          unfold gval yielded
          unfold dstOf at hT
          cases hoj : ops[j]? with
          | none => simp [undef]
          | some oj =>
            cases hdj : oj.dst with
            | none => simp [hdj, undef]
            | some d =>
              have h1 := hT d (by rw [hoj]; simpa using hdj)
              simp only [hdj, Option.bind_some]
              refine ⟨fun b hb => ?_, fun hb => ?_⟩
              · rw [hb] at h1
                have h2 := vrel_bool h1
                rw [Array.getD_eq_getD_getElem?] at h2
                cases h3 : a.tmps[d]? with
                | none => rw [h3] at h2; cases h2
                | some v => rw [h3] at h2; simp only [Option.getD_some] at h2; rw [h2]
              · rw [hb] at h1
                have h2 := vrel_undef h1
                rw [Array.getD_eq_getD_getElem?] at h2
                cases h3 : a.tmps[d]? with
                | none => rfl
                | some v => rw [h3] at h2; simp only [Option.getD_some] at h2; rw [h2]; rfl
        rcases hor with ⟨hg, hq, hco⟩ | ⟨hg, rfl, rfl⟩
        · have hw : Region.wanted o (yielded ops a.tmps) = true := by
            unfold Region.wanted
            cases hgd : o.guard with
            | none => rfl
            | some p =>
              obtain ⟨j, want⟩ := p
              simp only [(hgv j want hgd).1 want (hg j want hgd)]
              simp
          rw [if_pos hw]
          refine ⟨fun f _ => hF.fn f, ?_⟩
          rw [Oper.semAt_eq _ _ _ hq.nd]
          have hrun := hq.run (res sp.H.length ρ) a.eval w hheap (fun x hx => by
            cases x with
            | tmp t => exact rd (operand_read ho hx)
            | const v => exact hco _ hx _
            | «global» g =>
              obtain ⟨vs, sz, hg⟩ := hco _ hx
              obtain ⟨l, h1, h2, h3⟩ := hheap.glob g vs sz hg
              have := VRel.ptr (o := 0) h1
              rw [h2, h3] at this
              exact this
            | func f => exact .func trivial rfl (fun i hi => by simp at hi) rfl (fun i hi => by simp at hi))
          generalize (execOp a.eval o).run P w = r at hrun ⊢
          cases r with
          | ok x w' =>
            cases x with
            | value v' => obtain ⟨ρ', h1, h2, h3⟩ := hrun; exact cont v' ρ' w' h1 h2 h3
            | skip => obtain ⟨ρ', h1, h2, h3⟩ := hrun; exact cont undef ρ' w' h1 h2 h3
            | enter f args =>
              refine ⟨fun hd => by rw [hF.depth] at hd; simp at hd, hF.calls (Calls.mono hrun ?_)⟩
              rintro e w'' ⟨v', rfl, ρ', h1, h2, h3⟩
              exact cont v' ρ' w'' h1 h2 h3
            | _ => exact hrun.elim
          | halt x w' => exact hrun.elim
        · have hw : Region.wanted o (yielded ops a.tmps) = false := by
            obtain ⟨j, want, hgd, h1⟩ := hg
            unfold Region.wanted
            rw [hgd]
            rcases h1 with h1 | h1
            · simp only [(hgv j want hgd).1 _ h1]
              cases want <;> rfl
            · simp only [(hgv j want hgd).2 h1]
              cases want <;> rfl
          rw [if_neg (by rw [hw]; simp)]
          refine ⟨fun f _ => hF.fn f, ?_⟩
          exact cont undef _ w (.undef _) (by rw [List.append_nil]; exact hheap) (.refl hheap)
      by_cases hci : i < c
      · -- a late one
        obtain ⟨o, v, ho, hdo, hval, hor⟩ := hM.pend i hci hLi
        refine key (st c) o v [] ho (hM.heap c (Nat.le_refl _) hce) (fun t hr => hM.readP ht hs hen hce hci hLi hdi hr) ?_ fun v' ρ' w' hv hh hE => ?_
        · rcases hor with h | ⟨h1, h2⟩
          · exact .inl h
          · exact .inr ⟨h1, h2, rfl⟩
        · rw [List.append_nil] at hh
          obtain ⟨hM', hf'⟩ := hM.stepP hch hs hce hci hLi hdi ho hdo hval hv hh hE
          rw [← lof_set (by omega : i < listed.size)] at hM'
          exact ih _ ρ _ w' st c e hsz' hlf' hce hch hM' (hf.trans hf') hend
      by_cases hie : i < e
      · obtain ⟨o, ho, v, Δ, hdo, hst, hor⟩ := hch i (by omega) hie
        refine key (st i) o v Δ ho (hM.heap i (by omega) (by omega)) (fun t hr => hM.read hch ht hs hen (by omega) hie hLi hdi hr) hor fun v' ρ' w' hv hh hE => ?_
        obtain ⟨ρn, hM', hf'⟩ := hM.step hch hs (by omega) hie hLi hdi ho hst hdo hv hh hE
        rw [← lof_set (by omega : i < listed.size)] at hM'
        exact ih _ ρn _ w' st c e hsz' hlf' hce hch hM' (hf.trans hf') hend
      · -- one that turns the heap
        rcases hend with ⟨h1, _⟩ | ⟨o, rest, ho, hrest, hop⟩
        · omega
        · have hes : e < ops.size := (Array.getElem?_eq_some_iff.1 ho).1
          have hbits : ∀ j, j < ops.size → e < j → bit tab j e = true := fun j hj hej => by
            rcases hop with ⟨hcut, _⟩ | ⟨fl, _, hfl, _⟩
            · have h1 := List.all_eq_true.1 hcut j (List.mem_range.2 hj)
              simp only [Bool.and_eq_true, Bool.or_eq_true, Bool.not_eq_true', decide_eq_false_iff_not] at h1
              rcases h1.2 with h2 | h2
              · omega
              · exact h2
            · have h1 := List.all_eq_true.1 hfl j (List.mem_range.2 hj)
              rw [Bool.and_eq_true] at h1
              have h1 := h1.1
              simp only [Bool.and_eq_true, Bool.or_eq_true, Bool.not_eq_true', decide_eq_false_iff_not] at h1
              rcases h1.2 with h2 | h2
              · omega
              · exact h2
          have hie' : i = e := by
            by_cases h : i = e
            · exact h
            · have := tab_listed ht hM.closed i hin hdi e hes (hbits i hin (by omega))
              rw [hM.high e (Nat.le_refl _)] at this; cases this
          subst hie'
          have hL' : Lof (listed.setIfInBounds i true) = fun k => if k = i then true else Lof listed k := lof_set (by omega)
          have hLL : ∀ k, Lof (listed.setIfInBounds i true) k = false → k ≠ i ∧ Lof listed k = false := fun k h => by
            rw [hL'] at h
            try dsimp only at h
            by_cases e1 : k = i
            · rw [if_pos e1] at h; cases h
            · rw [if_neg e1] at h; exact ⟨e1, h⟩
          have hcl : Closed ops (Lof (listed.setIfInBounds i true)) := by
            rw [hL']
            intro k hk k' hk'
            try dsimp only at hk ⊢
            by_cases e1 : k = i
            · subst e1
              by_cases e2 : k' = k
              · rw [if_pos e2]
              · rw [if_neg e2]; exact hdi k' hk'
            · rw [if_neg e1] at hk
              by_cases e2 : k' = i
              · rw [if_pos e2]
              · rw [if_neg e2]; exact hM.closed k hk k' hk'
          have hlen : rest.length = ops.size - (i + 1) := by
            have h3 : rest[rest.length]? = none := List.getElem?_eq_none (Nat.le_refl _)
            rw [hrest] at h3
            have h4 := Array.getElem?_eq_none_iff.1 h3
            by_cases h5 : rest.length = ops.size - (i + 1)
            · exact h5
            · have h6 : rest[ops.size - (i + 1)]? = ops[i + 1 + (ops.size - (i + 1))]? := hrest _
              rw [show i + 1 + (ops.size - (i + 1)) = ops.size by omega, Array.getElem?_eq_none (Nat.le_refl _)] at h6
              have h7 := List.getElem?_eq_none_iff.1 h6
              omega
          -- what comes behind it
          have behind : ∀ (s' : ASt) (T0 : Nat → Value) ρ' a' w', dList F n P N0 ops tab (i + 1) rest K s' → SRel N0 ρ' { s' with T := T0 } a' w' → (∀ t, (∀ j, j < i → Lof listed j = false → dstOf ops j ≠ some t) → T0 t = s'.T t) →
              (∀ j, j < i → Lof listed j = false → Pend P ops s' j) → (∀ i' j', i' < j' → j' < i → Lof listed i' = false → Lof listed j' = false → ∀ t, t ∈ readsOf ops i' → dstOf ops j' ≠ some t) → Fr N0.length ρ (st i).H w ρ' s'.H w' →
              wpAnyIn F n P .any ops R fuel (listed.setIfInBounds i true) a' w' := by
            intro s' T0 ρ' a' w' hk hs' hT0 hpd hla hf'
            obtain ⟨e', st', hce', hst', hch', hend'⟩ := chain_of rest (i + 1) s' hrest hk
            have hfn : Fr N0.length ρs Hs ws ρ' (st' (i + 1)).H w' := by rw [hst']; exact hf.trans hf'
            have hM2 : Mid P N0 ops st' (i + 1) e' (Lof (listed.setIfInBounds i true)) ρ' a' w' := .start hch' hce' hcl
              (fun j hj hLj => by
                obtain ⟨e1, e2⟩ := hLL j hLj
                rw [hst']; exact hpd j (by omega) e2)
              (fun i' j' h1 h2 h3 h4 => by
                obtain ⟨e1, e2⟩ := hLL i' h3
                obtain ⟨e3, e4⟩ := hLL j' h4
                exact hla i' j' h1 (by omega) e2 e4)
              (fun j hj => by
                rw [hL']; try dsimp only
                rw [if_neg (by omega)]; exact hM.high j (by omega))
              (T0 := T0) (fun t h => by
                rw [hst']
                refine hT0 t fun j h1 h2 => h j (by omega) ?_
                rw [hL']; try dsimp only
                rw [if_neg (by omega)]; exact h2) (by rw [hst']; exact hs')
            have hf2 : Fr N0.length ρs Hs ws ρ' (st' e').H w' := by
              refine ⟨hfn.os, hfn.tape, hfn.output, hfn.size, hfn.keep, hfn.oldA, fun b l' hb hw => hfn.fresh b l' hb ?_⟩
              obtain ⟨o2, p1, p2⟩ := hw
              have hb2 : b < (st' (i + 1)).H.length := by
                by_cases e1 : b < (st' (i + 1)).H.length
                · exact e1
                · rw [hst'] at e1
                  have h9 : ρ' b = .none := hs'.heap.bound b (by show s'.H.length ≤ b; omega)
                  rw [h9] at hb; cases hb
              exact ⟨o2, by rw [← chain_get hch' (Nat.le_refl _) hce' (Nat.le_refl _) hb2]; exact p1, p2⟩
            refine ih _ ρ' a' w' st' (i + 1) e' hsz' hlf' hce' hch' hM2 hf2 ?_
            rcases hend' with ⟨q1, q2⟩ | ⟨o', r', q1, q2, q3, q4, q5⟩
            · exact .inl ⟨by omega, q2⟩
            · exact .inr ⟨o', r', q1, q2, q5⟩
          have go : ∀ (T' : Nat → Value) (K' : ASt → Prop), SRel N0 ρ { st i with T := T' } a w → GYes ops o T' → OpOk F n P N0 o K' { st i with T := T' } →
              (∀ s' ρ' a' w', K' s' → SRel N0 ρ' s' a' w' → Fr N0.length ρ (st i).H w ρ' s'.H w' → wpAnyIn F n P .any ops R fuel (listed.setIfInBounds i true) a' w') →
              wpOpIn F n P ops R i (wpAnyIn F n P .any ops R fuel (listed.setIfInBounds i true)) a w := by
            intro T' K' hsr hg hop hk
            unfold wpOpIn
            simp only [ho]
            rw [if_pos (wanted_yes hsr.tmps hg)]
            have h2 := Oper.wpIn_mono (K' := wpAnyIn F n P .any ops R fuel (listed.setIfInBounds i true)) (fun a' w' ⟨s', ρ', hk', hs', hf'⟩ => hk s' ρ' a' w' hk' hs' hf') (hop ρ a w hsr)
            unfold Oper.wpIn at h2 ⊢
            refine ⟨h2.1, ?_⟩
            have h3 := h2.2
            generalize (o.semAt F.round a.eval).run P w = r at h3 ⊢
            cases r with
            | ok x w' =>
              cases x <;> simp only [Oper.uponIn] at h3 ⊢ <;>
                first
                  | exact h3
                  | exact ⟨h3.1, CallsIn.mono h3.2 (fun e w'' he => by cases e <;> first | exact he | exact he.elim | exact (by obtain ⟨_, _, hf⟩ := he; exact hf.elim))⟩
                  | exact ⟨h3.1, RoundIn.mono h3.2 (fun e w'' he => by cases e <;> first | exact he | exact he.elim | exact (by obtain ⟨_, _, hf⟩ := he; exact hf.elim))⟩
            | halt x w' => cases x <;> simp only [Oper.uponIn] at h3 ⊢ <;> exact h3.elim
          rcases hop with ⟨hcut, hg, hop⟩ | ⟨fl, R', hfl, hg, hop, hk0⟩
          · have hall : ∀ j, j < i → Lof listed j = true := fun j hj => by
              have h1 := List.all_eq_true.1 hcut j (List.mem_range.2 (by omega))
              simp only [Bool.and_eq_true, Bool.or_eq_true, Bool.not_eq_true', decide_eq_false_iff_not] at h1
              rcases h1.1 with h2 | h2
              · omega
              · exact tab_listed ht hM.closed i hin hdi j (by omega) h2
            have hno : ∀ j, j < i → Lof listed j ≠ false := fun j hj h => by rw [hall j hj] at h; cases h
            refine go (st i).T _ (hM.finish hch hs hce hall) hg hop fun s' ρ' a' w' hk hs' hf' => ?_
            exact behind s' s'.T ρ' a' w' hk hs' (fun _ _ => rfl) (fun j h1 h2 => absurd h2 (hno j h1)) (fun i' j' _ h1 _ h2 => absurd h2 (hno j' h1)) hf'
          · have hin_fl : ∀ j, j < i → Lof listed j = false → j ∈ fl := fun j hj hLj => by
              have h1 := List.all_eq_true.1 hfl j (List.mem_range.2 (by omega))
              rw [Bool.and_eq_true] at h1
              have h1 := h1.1
              simp only [Bool.and_eq_true, Bool.or_eq_true, Bool.not_eq_true', decide_eq_false_iff_not, List.contains_iff_mem] at h1
              rcases h1.1 with (h2 | h2) | h2
              · omega
              · rw [tab_listed ht hM.closed i hin hdi j (by omega) h2] at hLj; cases hLj
              · exact h2
            obtain ⟨T', hT1, hT2⟩ : ∃ T' : Nat → Value, (∀ t, (∀ j, j < i → Lof listed j = false → dstOf ops j ≠ some t) → T' t = (st i).T t) ∧ (∀ t, (∃ j, j < i ∧ Lof listed j = false ∧ dstOf ops j = some t) → T' t = junk) := by
              refine ⟨fun t => open Classical in if ∃ j, j < i ∧ Lof listed j = false ∧ dstOf ops j = some t then junk else (st i).T t, fun t h => ?_, fun t h => ?_⟩
              · exact if_neg fun ⟨j, h1, h2, h3⟩ => h j h1 h2 h3
              · exact if_pos h
            have hgY : GYes ops o T' := by
              intro j want hgd
              have h1 := hg j want hgd
              have : gval ops T' j = gval ops (st i).T j := by
                unfold gval
                cases hoj : ops[j]? with
                | none => rfl
                | some oj =>
                  cases hdj : oj.dst with
                  | none => simp [hdj]
                  | some d =>
                    simp only [hdj]
                    refine hT1 d fun j' h2 h3 h4 => ?_
                    rcases ssa_read hs hin (gval_read ho hgd (show dstOf ops j = some d by unfold dstOf; rw [hoj]; simpa using hdj)) h4 with ⟨h5, h6⟩ | ⟨h5, h6⟩
                    · rw [tab_listed ht hM.closed i hin hdi j' (by omega) h6] at h3; cases h3
                    · omega
              rw [this]; exact h1
            have hsJ := hM.finishJ hch hs hce hT1 hT2
            refine go T' (fun s' => ∃ v H', R' v H' ∧ s' = ASt.put { st i with T := T', H := H' } o.dst v) hsJ hgY (hop T' (fun t h => hT1 t fun j h1 h2 => h j (hin_fl j h1 h2)) _ fun v H' hR => ⟨v, H', hR, rfl⟩) fun s' ρ' a' w' hk' hs' hf' => ?_
            obtain ⟨v, H', hR', rfl⟩ := hk'
            obtain ⟨hpd, hk⟩ := hk0 v H' hR'
            refine behind (ASt.put { st i with H := H' } o.dst v) (ASt.put { st i with T := T', H := H' } o.dst v).T ρ' a' w' hk ?_ (fun t h => ?_) (fun j h1 h2 => hpd j (hin_fl j h1 h2)) (fun i' j' h1 h2 h3 h4 t hr hdt => ?_) ?_
            · have : ({ (ASt.put { st i with H := H' } o.dst v) with T := (ASt.put { st i with T := T', H := H' } o.dst v).T } : ASt) = ASt.put { st i with T := T', H := H' } o.dst v := by cases o.dst <;> rfl
              rw [this]; exact hs'
            · cases hdo : o.dst with
              | none => exact hT1 t h
              | some d =>
                show upd T' d v t = upd (st i).T d v t
                by_cases e1 : t = d
                · subst e1; rw [upd_same, upd_same]
                · rw [upd_other _ _ e1, upd_other _ _ e1]; exact hT1 t h
            · have h5 := List.all_eq_true.1 hfl j' (List.mem_range.2 (by omega))
              rw [Bool.and_eq_true] at h5
              have h6 := List.all_eq_true.1 h5.2 i' (List.mem_range.2 (by omega))
              rw [hdt] at h6
              have m1 : fl.contains i' = true := List.contains_iff_mem.2 (hin_fl i' (by omega) h3)
              have m2 : fl.contains j' = true := List.contains_iff_mem.2 (hin_fl j' h2 h4)
              have m3 : (readsOf ops i').contains t = true := List.contains_iff_mem.2 hr
              simp only [m1, m2, m3, decide_eq_true h1] at h6
              simp at h6
            · have h7 : (ASt.put { st i with H := H' } o.dst v).H = (ASt.put { st i with T := T', H := H' } o.dst v).H := by cases o.dst <;> rfl
              rw [h7]; exact hf'
/-- A region that draws its order. -/
theorem awp_region_any (hF : Wd F) (hm : P.follows .mixedOrders = true) {id : Nat} {Q : AEx → ASt → Prop} {s : ASt} {l : List Oper} (tab : List Nat) (ht : tabOk l.toArray tab = true) (hs : ssaOk l.toArray tab = true)
    (h : dList F n P N0 l.toArray tab 0 l (Q .normal) s) : awp F n P N0 (.region id l.toArray true) Q s := by
  intro ρ a w hs0
  refine wpIn_region_any hm ?_
  obtain ⟨e, st, hce, hst, hch, hend⟩ := chain_of (ops := l.toArray) l 0 s (fun j => by simp) h
  have hL : ∀ k, Lof (Array.replicate l.toArray.size false) k = false := fun k => by
    unfold Lof
    by_cases hk : k < l.length <;> simp [hk]
  have hs1 := hs0.drawn (w.drawn + 1)
  have hf0 : Fr N0.length ρ s.H w ρ s.H { w with drawn := w.drawn + 1 } := (Fr.refl N0.length ρ s.H { w with drawn := w.drawn + 1 }).drew
  have hM : Mid P N0 l.toArray st 0 e (Lof (Array.replicate l.toArray.size false)) ρ a { w with drawn := w.drawn + 1 } :=
    .start hch hce (fun k hk => by rw [hL k] at hk; cases hk) (fun k hk => by omega) (fun i j h1 h2 => by omega) (fun k _ => hL k) (T0 := (st 0).T) (fun _ _ => rfl) (by rw [hst]; exact hs1)
  refine any_sound (R := APost N0 Q ρ s.H w) hF ht hs (fun hl => by obtain ⟨a, w, x, s', ρ', h, _⟩ := hl; cases x <;> cases h) ρ s.H w (fun s' ρ' a' w' hk hs' hf => ⟨.normal, s', ρ', rfl, hk, hs', hf⟩) _ _ ρ a _ st 0 e (by simp) ?_ hce hch hM ?_ ?_
  · unfold left
    rw [List.filter_eq_self.2 (fun i _ => by rw [hL i]; rfl)]
    simp
  · refine ⟨hf0.os, hf0.tape, hf0.output, hf0.size, hf0.keep, hf0.oldA, fun b l' hb hw => .inl ⟨b, l', hb, rfl, ?_⟩⟩
    obtain ⟨o2, p1, p2⟩ := hw
    have hb2 : b < (st 0).H.length := by
      by_cases e1 : b < (st 0).H.length
      · exact e1
      · rw [hst] at e1; rw [hs0.heap.bound b (by omega)] at hb; cases hb
    exact ⟨o2, by rw [← hst, ← chain_get hch (Nat.le_refl _) hce (Nat.le_refl _) hb2]; exact p1, p2⟩
  · rcases hend with ⟨q1, q2⟩ | ⟨o', r', q1, q2, q3, q4, q5⟩
    · exact .inl ⟨by simpa using q1, q2⟩
    · exact .inr ⟨o', r', q1, q2, q5⟩
end
end Go.Proofs.YtbjlabokijchpaaA
