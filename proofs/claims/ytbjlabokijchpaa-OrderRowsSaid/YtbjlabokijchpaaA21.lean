/-
  Maps whose keys are numbers or texts.
-/
import Derived.Test.YtbjlabokijchpaaA20
import Derived.MapKept
namespace Go.Proofs.YtbjlabokijchpaaA
set_option linter.unusedVariables false
open Go Go.RowKit Go.Shelf
section
variable {κ : Type} [DecidableEq κ]
abbrev Ent (κ : Type) := κ × Value × Nat
def mk (kf : κ → Value) (l : List (Ent κ)) : List MapEntry := l.map fun p => ⟨kf p.1, p.2.1, p.2.2⟩
/-- Where the key stands. -/
def idx (a : κ) : List (Ent κ) → Option Nat
  | [] => none
  | p :: l => if a = p.1 then some 0 else (idx a l).map (· + 1)
def mlook (l : List (Ent κ)) (a : κ) (z : Value) : Value := match idx a l with | some i => (l[i]?.map (·.2.1)).getD z | none => z
def mput (l : List (Ent κ)) (a : κ) (v : Value) (c : Nat) : List (Ent κ) := match idx a l with | some i => l.modify i fun p => (a, v, p.2.2) | none => l ++ [(a, v, c)]
def mclk (l : List (Ent κ)) (a : κ) (c : Nat) : Nat := match idx a l with | some _ => c | none => c + 1
theorem idx_lt {a : κ} : ∀ {l : List (Ent κ)} {i : Nat}, idx a l = some i → i < l.length ∧ ∃ p, l[i]? = some p ∧ p.1 = a
  | [], i, h => by cases h
  | p :: l, i, h => by
    unfold idx at h
    split at h
    · cases h; exact ⟨by simp, p, by simp, by rename_i e; exact e.symm⟩
    · obtain ⟨j, h1, rfl⟩ := Option.map_eq_some_iff.1 h
      obtain ⟨h2, q, h3, h4⟩ := idx_lt h1
      exact ⟨by simp; omega, q, by simpa using h3, h4⟩
theorem idx_modify {a b : κ} {f : Ent κ → Ent κ} (hf : ∀ p, (f p).1 = a) : ∀ {l : List (Ent κ)} {i : Nat}, idx a l = some i → idx b (l.modify i f) = idx b l
  | [], i, h => by cases h
  | p :: l, i, h => by
    unfold idx at h
    split at h
    · rename_i e
      cases h
      show idx b (f p :: l) = idx b (p :: l)
      unfold idx
      rw [hf, e]
    · obtain ⟨j, h1, rfl⟩ := Option.map_eq_some_iff.1 h
      show idx b (p :: l.modify j f) = idx b (p :: l)
      unfold idx
      rw [idx_modify hf h1]
theorem idx_append {a b : κ} {v : Value} {c : Nat} : ∀ {l : List (Ent κ)}, idx a l = none → idx b (l ++ [(a, v, c)]) = if b = a then some l.length else idx b l
  | [], h => by
    show idx b [(a, v, c)] = _
    unfold idx
    split <;> simp [idx]
  | p :: l, h => by
    unfold idx at h
    split at h
    · cases h
    · rename_i e
      have h1 : idx a l = none := by simpa using h
      show idx b (p :: (l ++ [(a, v, c)])) = _
      unfold idx
      rw [idx_append h1]
      by_cases hb : b = a
      · subst hb
        rw [if_neg e, if_pos rfl]; simp
      · simp only [hb, if_false]
theorem mlook_put (l : List (Ent κ)) (a b : κ) (v z : Value) (c : Nat) : mlook (mput l a v c) b z = if b = a then v else mlook l b z := by
  unfold mput
  cases h : idx a l with
  | some i =>
    obtain ⟨h1, p, h2, h3⟩ := idx_lt h
    unfold mlook
    dsimp only
    rw [idx_modify (f := fun p : Ent κ => (a, v, p.2.2)) (a := a) (fun _ => rfl) h]
    by_cases hb : b = a
    · subst hb
      rw [h, if_pos rfl]
      dsimp only
      rw [List.getElem?_modify, h2]; simp
    · rw [if_neg hb]
      cases h4 : idx b l with
      | none => rfl
      | some j =>
        dsimp only
        obtain ⟨_, q, h5, h6⟩ := idx_lt h4
        have hne : i ≠ j := fun e => by subst e; rw [h2] at h5; cases h5; exact hb (h6.symm.trans h3)
        rw [List.getElem?_modify, h5]; simp [hne]
  | none =>
    unfold mlook
    dsimp only
    rw [idx_append h]
    by_cases hb : b = a
    · subst hb
      simp
    · simp only [hb, if_false]
      cases h4 : idx b l with
      | none => rfl
      | some j =>
        dsimp only
        rw [List.getElem?_append_left (idx_lt h4).1]
theorem mlook_nil (a : κ) (z : Value) : mlook [] a z = z := rfl
theorem beq_self (a : ByteArray) : (a == a) = true := by
  obtain ⟨a⟩ := a
  show (a == a) = true
  simp
theorem eq_of_beqB {a b : ByteArray} (h : (a == b) = true) : a = b := by
  obtain ⟨a⟩ := a
  obtain ⟨b⟩ := b
  have h' : (a == b) = true := h
  rw [eq_of_beq h']
theorem run_getMap {P : Program} {w : World} {r : Nat} {es : Array MapEntry} {c : Nat} (h : w.heap[r]? = some (.map es c)) : (getObj r).run P w = .ok (.map es c) w := by simp [getObj, Sem.run, h]
theorem run_setMap {P : Program} {w : World} {r : Nat} {es : Array MapEntry} {c : Nat} (o : Obj) (h : w.heap[r]? = some (.map es c)) : (setObj r o).run P w = .ok () (w.putObj r o) := by simp [setObj, Sem.run, h, World.putObj]
/-- Keys that are compared at once. -/
structure KeyOk (P : Program) (k : TypeId) (kf : κ → Value) : Prop where
  desc : ∃ d, P.underlying k = some d ∧ ∀ a b, Instr.sameNow d (kf a) (kf b) = some (decide (a = b))
  check : ∀ em w a, (Instr.checkKey em 10000 k (kf a)).run P w = .ok () w
  scalar : ∀ a, Scalar (kf a) = true
  bits : ∀ a, Instr.sameBits 10000 (kf a) (kf a) = true
theorem key_int {P : Program} {k : TypeId} {kd : IntKind} (hu : P.underlying k = some (.int kd)) : KeyOk P k (fun a : Int => .int kd a) :=
  ⟨⟨_, hu, fun a b => by simp [Instr.sameNow]; rfl⟩, fun em w a => by
    rw [show (10000 : Nat) = 9999 + 1 from rfl]
    unfold Instr.checkKey
    rw [Sem.run_bind, run_und hu]; rfl, fun a => rfl, fun a => by simp [Instr.sameBits]⟩
theorem key_str {P : Program} {k : TypeId} (hu : P.underlying k = some .string) : KeyOk P k (fun a : ByteArray => .string a) :=
  ⟨⟨_, hu, fun a b => by
    show some (a == b) = _
    by_cases h : a = b
    · subst h; rw [beq_self a]; simp
    · simp only [h, decide_false]
      cases hb : a == b with
      | false => rfl
      | true => exact absurd (eq_of_beqB hb) h⟩, fun em w a => by
    rw [show (10000 : Nat) = 9999 + 1 from rfl]
    unfold Instr.checkKey
    rw [Sem.run_bind, run_und hu]; rfl, fun a => rfl, fun a => by
    show (a == a) = true
    exact beq_self a⟩
variable {P : Program} {kf : κ → Value}
theorem find_now {d : TypeDesc} (hk : ∀ a b, Instr.sameNow d (kf a) (kf b) = some (decide (a = b))) (a : κ) : ∀ (l : List (Ent κ)) (es : List MapEntry) (i : Nat), es.length = l.length → (∀ j, j < l.length → (es.getD j default).key = ((mk kf l).getD j default).key) →
    Instr.findNow d (kf a) es i = some ((idx a l).map fun j => (i + j, (es.getD j default).val))
  | [], [], i, _, _ => rfl
  | [], _ :: _, i, h, _ => by simp at h
  | _ :: _, [], i, h, _ => by simp at h
  | p :: l, e :: es, i, h, hj => by
    have h0 : e.key = kf p.1 := by simpa [mk] using hj 0 (by simp)
    unfold Instr.findNow idx
    rw [h0, hk]
    by_cases e1 : a = p.1
    · simp [e1]
    · simp only [e1, decide_false, if_false]
      rw [find_now hk a l es (i + 1) (by simpa using h) (fun j hj' => by simpa [mk] using hj (j + 1) (by simpa using hj'))]
      cases idx a l with
      | none => rfl
      | some j => simp [Nat.add_assoc, Nat.add_comm 1 j]
theorem run_findKey {k : TypeId} (K : KeyOk P k kf) (a : κ) {l : List (Ent κ)} {es : Array MapEntry} (hl : (mk kf l).length = es.size) (hj : ∀ j, j < (mk kf l).length → ((mk kf l).getD j default).key = (es.getD j default).key) (w : World) :
    (Instr.findKey k (kf a) es.toList).run P w = .ok ((idx a l).map fun j => (j, (es.getD j default).val)) w := by
  obtain ⟨d, hd, hk⟩ := K.desc
  have hll : l.length = es.size := by simpa [mk] using hl
  have h := find_now hk a l es.toList 0 (by simpa using hll.symm) (fun j hj' => by
    have := hj j (by simpa [mk] using hj')
    rw [this]
    simp [List.getD_eq_getElem?_getD])
  unfold Instr.findKey
  rw [Sem.run_bind, run_und hd, Result.andThen_ok, h]
  have e : (fun j => (0 + j, (es.toList.getD j default).val)) = fun j => (j, (es.getD j default).val) := by
    funext j; simp [List.getD_eq_getElem?_getD]
  rw [e]; rfl
theorem vrel_map {ρ : Ren} {H : AHeap} {w : World} (hh : HRel ρ H w) {b : Nat} {v' : Value} (h : VRel ρ (.map (some b)) v') (hl : H[b]? ≠ some .dead) : ∃ l, ρ b = .at l ∧ v' = .map (some l.blk) := by
  cases h with
  | map h => exact ⟨_, h, rfl⟩
  | dead h => exact absurd (hh.isdead b h) hl
section
variable {T : Nat → Value} {H : AHeap} {dst : Option Tmp} {ty : TypeId} {pos : String} {af : Array Edge} {g : Option (Nat × Bool)}
theorem q_lookup {t k el : TypeId} {x y : Operand} {b c : Nat} {l : List (Ent κ)} {a : κ} {z v : Value} (hu : P.underlying t = some (.map k el)) (K : KeyOk P k kf) (hz : ∀ w, (zeroValue el).run P w = .ok z w) (hzs : Scalar z = true)
    (hx : ev T x = .map (some b)) (hy : ev T y = kf a) (hH : H[b]? = some (.map (mk kf l) c)) (hv : mlook l a z = v) : OpQ P ⟨dst, .lookup t x y false, ty, pos, af, g⟩ T H v [] := by
  subst hv
  refine q_val (by simp) fun ρ e w hh he => ?_
  have h1 := he x (by simp [Op.operands])
  have h2 := he y (by simp [Op.operands])
  rw [hx] at h1
  rw [hy] at h2
  have e2 := h2.scalar_eq (K.scalar a)
  obtain ⟨lc, hlc, e1⟩ := vrel_map hh h1 (by rw [hH]; simp)
  obtain ⟨o, q1, q2, q3⟩ := hh.rel b lc hlc
  rw [hH] at q1; cases q1
  obtain ⟨es, h3, h4, h5⟩ := q3
  have hf := run_findKey K a h4 (fun j hj => (h5 j hj).1) w
  have hrun : (Instr.lookup t (e x) (e y) false).run P w = (match idx a l with | some j => Result.ok (es.getD j default).val w | none => Result.ok z w) := by
    rw [e1, e2]
    unfold Instr.lookup
    simp only [Sem.run_bind, run_und hu, Result.andThen_ok, run_getMap h3, K.check, hf, Sem.run_pure]
    cases idx a l with
    | none => simp only [Option.map_none, hz w, Sem.run_bind, Result.andThen_ok, Sem.run_pure]; rfl
    | some j => rfl
  cases hi : idx a l with
  | none =>
    refine ⟨z, run_v ?_, ?_⟩
    · show (Instr.lookup t (e x) (e y) false).run P w = _
      rw [hrun, hi]
    · unfold mlook; rw [hi]; exact .scalar hzs ρ
  | some j =>
    refine ⟨(es.getD j default).val, run_v ?_, ?_⟩
    · show (Instr.lookup t (e x) (e y) false).run P w = _
      rw [hrun, hi]
    · obtain ⟨hj, p, hp, _⟩ := idx_lt hi
      have h6 := (h5 j (by simpa [mk] using hj)).2.1
      unfold mlook
      rw [hi]
      dsimp only
      rw [hp]
      have e3 : ((mk kf l).getD j default).val = p.2.1 := by simp [mk, List.getD_eq_getElem?_getD, hp]
      rw [e3] at h6
      exact h6
end
section
variable {F : Fence} {n : Nat} {N0 : AHeap} {s : ASt} {dst : Option Tmp} {ty : TypeId} {pos : String} {af : Array Edge} {g : Option (Nat × Bool)}
theorem o_mapUpdate {K' : ASt → Prop} (hF : Wd F) {t k el : TypeId} {x y u : Operand} {b c : Nat} {l : List (Ent κ)} {a : κ} {v : Value} (hu : P.underlying t = some (.map k el)) (K : KeyOk P k kf)
    (hx : ev s.T x = .map (some b)) (hy : ev s.T y = kf a) (hv : ev s.T u = v) (hH : s.H[b]? = some (.map (mk kf l) c)) (hcx : cOk s.H x) (hcy : cOk s.H y) (hcu : cOk s.H u)
    (hk : K' { s with H := s.H.set b (.map (mk kf (mput l a v c)) (mclk l a c)) }) : OpOk F n P N0 ⟨none, .mapUpdate t x y u, ty, pos, af, g⟩ K' s := by
  intro ρ ac w hs'
  have hh := hs'.heap
  have h1 := ev_rel hh hs'.tmps hcx
  have h2 := ev_rel hh hs'.tmps hcy
  have hvr := ev_rel hh hs'.tmps hcu
  rw [hx] at h1
  rw [hy] at h2
  rw [hv] at hvr
  have e2 := h2.scalar_eq (K.scalar a)
  obtain ⟨lc, hlc, e1⟩ := vrel_map hh h1 (by rw [hH]; simp)
  obtain ⟨o, q1, q2, q3⟩ := hh.rel b lc hlc
  rw [hH] at q1; cases q1
  obtain ⟨es, h3, h4, h5⟩ := q3
  have hf := run_findKey K a h4 (fun j hj => (h5 j hj).1) w
  have hll : l.length = es.size := by simpa [mk] using h4
  obtain ⟨es', c', hes, hrun⟩ : ∃ es' c', ORel ρ lc (w.putObj lc.blk (.map es' c')) (.map (mk kf (mput l a v c)) (mclk l a c)) ∧ (Instr.mapUpdate t (ac.eval x) (ac.eval y) (ac.eval u)).run P w = .ok () (w.putObj lc.blk (.map es' c')) := by
    cases hi : idx a l with
    | none =>
      refine ⟨es.push ⟨kf a, ac.eval u, c⟩, c + 1, ?_, ?_⟩
      · unfold mput mclk
        rw [hi]
        refine ⟨_, World.putObj_heap_same q2, by simp [mk, hll], fun i hi' => ?_⟩
        dsimp only at hi' ⊢
        by_cases e : i < l.length
        · have := h5 i (by simpa [mk] using e)
          have e3 : (mk kf (l ++ [(a, v, c)])).getD i default = (mk kf l).getD i default := by
            unfold mk
            rw [List.map_append, List.getD_eq_getElem?_getD, List.getElem?_append_left (by simpa using e), ← List.getD_eq_getElem?_getD]
          have e4 : (es.push ⟨kf a, ac.eval u, c⟩).getD i default = es.getD i default := by simp [Array.getElem?_push, show i ≠ es.size by omega]
          rw [e3, e4]; exact this
        · have e5 : i = l.length := by simp [mk] at hi'; omega
          subst e5
          have e3 : (mk kf (l ++ [(a, v, c)])).getD l.length default = ⟨kf a, v, c⟩ := by simp [mk]
          have e4 : (es.push ⟨kf a, ac.eval u, c⟩).getD l.length default = ⟨kf a, ac.eval u, c⟩ := by rw [hll]; simp
          rw [e3, e4]; exact ⟨rfl, hvr, rfl⟩
      · rw [e1, e2]
        unfold Instr.mapUpdate
        simp only [Sem.run_bind, run_und hu, Result.andThen_ok, run_getMap h3, K.check, hf, hi, Option.map_none]
        rw [run_setMap _ h3]
    | some j =>
      obtain ⟨hj, p, hp, hpa⟩ := idx_lt hi
      refine ⟨es.modify j fun e => { e with key := kf a, val := ac.eval u }, c, ?_, ?_⟩
      · unfold mput mclk
        rw [hi]
        refine ⟨_, World.putObj_heap_same q2, by simp [mk, hll], fun i hi' => ?_⟩
        dsimp only at hi' ⊢
        have hil : i < l.length := by simpa [mk] using hi'
        have := h5 i (by simpa [mk] using hil)
        obtain ⟨q, hq⟩ : ∃ q, l[i]? = some q := ⟨l[i], List.getElem?_eq_getElem hil⟩
        have hie : i < es.size := by omega
        by_cases e : j = i
        · subst e
          have e3 : (mk kf (l.modify j fun p => (a, v, p.2.2))).getD j default = ⟨kf a, v, q.2.2⟩ := by simp [mk, List.getD_eq_getElem?_getD, List.getElem?_modify, hq]
          have e4 : (es.modify j fun e => { e with key := kf a, val := ac.eval u }).getD j default = ⟨kf a, ac.eval u, (es.getD j default).born⟩ := by simp [Array.getElem?_modify, Array.getElem_modify, hie]
          have e6 : ((mk kf l).getD j default).born = q.2.2 := by simp [mk, List.getD_eq_getElem?_getD, hq]
          rw [e3, e4]
          exact ⟨rfl, hvr, by rw [← this.2.2, e6]⟩
        · have e3 : (mk kf (l.modify j fun p => (a, v, p.2.2))).getD i default = (mk kf l).getD i default := by simp [mk, List.getD_eq_getElem?_getD, List.getElem?_modify, e]
          have e4 : (es.modify j fun e => { e with key := kf a, val := ac.eval u }).getD i default = es.getD i default := by simp [Array.getElem?_modify, e]
          rw [e3, e4]; exact this
      · rw [e1, e2]
        unfold Instr.mapUpdate
        have hkey : ((es[j]?).map (·.key)).getD (kf a) = kf a := by
          have := (h5 j (by simpa [mk] using hj)).1
          have e3 : ((mk kf l).getD j default).key = kf a := by simp [mk, List.getD_eq_getElem?_getD, hp, hpa]
          rw [e3] at this
          have hje : j < es.size := by omega
          simp only [Array.getElem?_eq_getElem hje, Option.map_some, Option.getD_some]
          rw [this]; simp [hje]
        simp only [Sem.run_bind, run_und hu, Result.andThen_ok, run_getMap h3, K.check, hf, hi, Option.map_some, hkey]
        unfold Instr.keyThatStays
        simp only [K.bits, if_true, Sem.run_pure, Result.andThen_ok]
        rw [run_setMap _ h3]
  obtain ⟨p1, p2⟩ := put_obj hh hlc ⟨_, hH, rfl⟩ N0.length (.map es' c') (.map (mk kf (mput l a v c)) (mclk l a c)) (by simp) hes (by rw [hH]; simp)
  refine ⟨fun f _ => hF.fn f, ?_⟩
  rw [Oper.semAt_eq _ _ _ (by simp)]
  have hr : (execOp ac.eval ⟨none, .mapUpdate t x y u, ty, pos, af, g⟩).run P w = .ok .skip (w.putObj lc.blk (.map es' c')) := by
    show (Sem.run P (do Instr.mapUpdate t (ac.eval x) (ac.eval y) (ac.eval u); pure Next.skip) w) = _
    rw [Sem.run_bind, hrun]
    rfl
  rw [hr]
  refine ⟨_, ρ, hk, ?_, p2⟩
  refine SRel.put (s := { s with H := s.H.set b (.map (mk kf (mput l a v c)) (mclk l a c)) }) ⟨p1, hs'.tmps, ?_, by simpa using hs'.len, hs'.entry⟩ (dst := none) trivial (.undef ρ)
  exact DRel.keep (b := b) (fun c hc => by rw [List.getElem?_set, if_neg (Ne.symm hc)]) (by rw [hH]; simp) _ _ hs'.defers
end
end
section
variable {P : Program} {T : Nat → Value} {H : AHeap} {dst : Option Tmp} {ty : TypeId} {pos : String} {af : Array Edge} {g : Option (Nat × Bool)} {κ : Type} {kf : κ → Value}
theorem q_makeMap {t : TypeId} {N : Nat} (hN : H.length = N) : OpQ P ⟨dst, .makeMap t none, ty, pos, af, g⟩ T H (.map (some N)) [.map (mk kf []) 0] := by
  subst hN
  refine ⟨by simp, by simp [AObj.wr], fun ρ e w hh he => ?_⟩
  have hr : (execOp e ⟨dst, .makeMap t none, ty, pos, af, g⟩).run P w = .ok (.value (.map (some w.heap.size))) (w.alloc (.map #[] 0)) := run_v rfl
  rw [hr]
  obtain ⟨ρ', k1, k2, k3, k4⟩ := new_obj (w1 := w.alloc (.map #[] 0)) hh (o := .map (mk kf []) 0) rfl ⟨w.heap.size, 0, 0, 0⟩ rfl rfl rfl rfl rfl (fun ρ' _ => ⟨#[], World.alloc_heap_new w _, rfl, fun i hi => by simp [mk] at hi⟩)
  exact ⟨ρ', .map k1, k3, k4⟩
end
end Go.Proofs.YtbjlabokijchpaaA
