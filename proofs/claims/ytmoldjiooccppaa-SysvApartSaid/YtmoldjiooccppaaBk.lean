/-
  The walks of a table that was built: of each name the symbols of its bucket, the last one first. No program in sight.
-/
import Derived.Test.YtmoldjiooccppaaS3
import Derived.Test.YtmoldjiooccppaaS2
namespace Go.Proofs.YtmoldjiooccppaaA
set_option linter.unusedVariables false
open Go
def bkt (names : List ByteArray) (nb x : Nat) : Nat := hash (names.getD x ⟨#[]⟩) % nb
/-- The symbols below n in a bucket, the last one first. -/
def bl (names : List ByteArray) (nb h : Nat) : Nat → List Nat
  | 0 => []
  | n + 1 => if n ≠ 0 ∧ bkt names nb n = h then n :: bl names nb h n else bl names nb h n
section
variable {names : List ByteArray} {nb h : Nat}
theorem bl_cons : ∀ {n y : Nat} {t : List Nat}, bl names nb h n = y :: t → y < n ∧ y ≠ 0 ∧ bkt names nb y = h ∧ t = bl names nb h y
  | 0, y, t, e => by cases e
  | n + 1, y, t, e => by
    unfold bl at e
    split at e
    · rename_i hh
      cases e
      exact ⟨Nat.lt_succ_self _, hh.1, hh.2, rfl⟩
    · obtain ⟨h1, h2⟩ := bl_cons e
      exact ⟨by omega, h2⟩
theorem bl_length : ∀ n, (bl names nb h n).length ≤ n - 1
  | 0 => by simp [bl]
  | n + 1 => by
    unfold bl
    have h0 : (bl names nb h n).length ≤ n - 1 := bl_length n
    split
    · rename_i hh
      have := hh.1
      simp; omega
    · omega
theorem bl_mem : ∀ {n x : Nat}, x ∈ bl names nb h n ↔ x < n ∧ x ≠ 0 ∧ bkt names nb x = h
  | 0, x => by simp [bl]
  | n + 1, x => by
    unfold bl
    split
    · rename_i hh
      rw [List.mem_cons, bl_mem]
      constructor
      · rintro (rfl | ⟨h1, h2⟩)
        · exact ⟨Nat.lt_succ_self _, hh⟩
        · exact ⟨by omega, h2⟩
      · rintro ⟨h1, h2⟩
        by_cases e : x = n
        · exact .inl e
        · exact .inr ⟨by omega, h2⟩
    · rename_i hh
      rw [bl_mem]
      constructor
      · rintro ⟨h1, h2⟩; exact ⟨by omega, h2⟩
      · rintro ⟨h1, h2⟩
        refine ⟨?_, h2⟩
        by_cases e : x = n
        · subst e; exact absurd h2 hh
        · omega
theorem bl_nodup : ∀ n, (bl names nb h n).Nodup
  | 0 => .nil
  | n + 1 => by
    unfold bl
    split
    · refine List.nodup_cons.2 ⟨fun hm => ?_, bl_nodup n⟩
      have := (bl_mem.1 hm).1
      omega
    · exact bl_nodup n
/-- What a table that is being built holds. -/
structure Built (names : List ByteArray) (nb n : Nat) (p : List Nat × List Nat) : Prop where
  lenB : p.1.length = nb
  lenC : p.2.length = names.length
  heads : ∀ h, h < nb → p.1.getD h 0 = (bl names nb h n).headD 0
  next : ∀ x, x ≠ 0 → x < n → p.2.getD x 0 = (bl names nb (bkt names nb x) x).headD 0
theorem getD_set (l : List Nat) (i j v : Nat) : (l.set i v).getD j 0 = if i = j ∧ j < l.length then v else l.getD j 0 := by
  rw [List.getD_eq_getElem?_getD, List.getElem?_set]
  by_cases e : i = j
  · subst e
    by_cases hl : i < l.length
    · simp [hl]
    · simp [hl]
  · simp [e]
theorem built_one (hnb : 0 < nb) : Built names nb 1 (buildN names nb 1) := by
  refine ⟨by simp [buildN], by simp [buildN], fun h hh => ?_, fun x h1 h2 => by omega⟩
  show (List.replicate nb 0).getD h 0 = _
  have : bl names nb h 1 = [] := by simp [bl]
  rw [this]
  simp [List.getD_eq_getElem?_getD, List.getElem?_replicate, hh]
theorem built_step {n : Nat} (hnb : 0 < nb) (hn : 1 ≤ n) (hlt : n < names.length) (hB : Built names nb n (buildN names nb n)) : Built names nb (n + 1) (buildN names nb (n + 1)) := by
  have e : buildN names nb (n + 1) = buildStep names nb n (buildN names nb n) := by rw [buildN, if_neg (by omega)]
  rw [e]
  obtain ⟨h1, h2, h3, h4⟩ := hB
  have hb : bkt names nb n < nb := Nat.mod_lt _ hnb
  refine ⟨by simpa [buildStep] using h1, by simpa [buildStep] using h2, fun h hh => ?_, fun x hx0 hx => ?_⟩
  · show ((buildN names nb n).1.set (bkt names nb n) n).getD h 0 = _
    rw [getD_set]
    unfold bl
    by_cases e1 : bkt names nb n = h
    · rw [if_pos ⟨e1, by omega⟩, if_pos ⟨by omega, e1⟩]; rfl
    · rw [if_neg (fun x => e1 x.1), if_neg (fun x => e1 x.2)]
      exact h3 h hh
  · show ((buildN names nb n).2.set n ((buildN names nb n).1.getD (bkt names nb n) 0)).getD x 0 = _
    rw [getD_set]
    by_cases e1 : n = x
    · subst e1
      rw [if_pos ⟨rfl, by omega⟩]
      exact h3 _ hb
    · rw [if_neg (fun y => e1 y.1)]
      exact h4 x hx0 (by omega)
theorem built_all (hnb : 0 < nb) : ∀ n, 1 ≤ n → n ≤ names.length → Built names nb n (buildN names nb n)
  | 0, h, _ => by omega
  | n + 1, _, h => by
    by_cases e : n = 0
    · subst e; exact built_one hnb
    · exact built_step hnb (by omega) (by omega) (built_all hnb n (by omega) (by omega))
theorem walk_bl {C : List Nat} (hnext : ∀ x, x ≠ 0 → x < C.length → C.getD x 0 = (bl names nb (bkt names nb x) x).headD 0) : ∀ (n fuel : Nat), n ≤ C.length → (bl names nb h n).length ≤ fuel → walkGo C fuel ((bl names nb h n).headD 0) = bl names nb h n := by
  intro n
  induction n using Nat.strongRecOn with
  | _ n ih =>
    intro fuel hn hf
    cases hb : bl names nb h n with
    | nil => exact go_stop (.inl rfl)
    | cons y t =>
      obtain ⟨h1, h2, h3, h4⟩ := bl_cons hb
      subst h4
      rw [hb] at hf
      simp only [List.length_cons] at hf
      show walkGo C fuel y = _
      have hy : y < C.length := by omega
      rw [go_step (by omega) h2 hy]
      have e : C[y] = (bl names nb h y).headD 0 := by
        have := hnext y h2 hy
        rw [List.getD_eq_getElem?_getD, List.getElem?_eq_getElem hy] at this
        rw [h3] at this
        simpa using this
      rw [e, ih y h1 (fuel - 1) (by omega) (by omega)]
/-- The walk of a name over a table that was built. -/
theorem walk_built (hnb : 0 < nb) (hl : 1 ≤ names.length) (s : ByteArray) : walkL (buildN names nb names.length).1 (buildN names nb names.length).2 s = bl names nb (hash s % nb) names.length := by
  obtain ⟨h1, h2, h3, h4⟩ := built_all (names := names) hnb names.length hl (Nat.le_refl _)
  have hs : hash s % nb < nb := Nat.mod_lt _ hnb
  rw [walk_pos (by omega)]
  have e : (buildN names nb names.length).1[hash s % (buildN names nb names.length).1.length]'(Nat.mod_lt _ (by omega)) = (bl names nb (hash s % nb) names.length).headD 0 := by
    have := h3 _ hs
    have hs' : hash s % nb < (buildN names nb names.length).1.length := by omega
    rw [List.getD_eq_getElem?_getD, List.getElem?_eq_getElem hs'] at this
    rw [← this]
    simp [h1]
  rw [e]
  exact walk_bl (fun x hx0 hx => h4 x hx0 (by omega)) _ _ (by omega) (by have h9 : (bl names nb (hash s % nb) names.length).length ≤ names.length - 1 := bl_length _; omega)
end
end Go.Proofs.YtmoldjiooccppaaA
