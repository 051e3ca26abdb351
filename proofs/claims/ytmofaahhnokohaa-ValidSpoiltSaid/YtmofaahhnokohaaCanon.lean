/-
  A region that draws its order, walked once in an order that the prover names: what needs no memory first, what is read of memory that nobody in the region turns, then each effect when it alone may come up.
-/
import Derived.Test.YtmofaahhnokohaaWLast
import Derived.Test.YtmofaahhnokohaaWWords
import Derived.Test.YtmofaahhnokohaaWMore
namespace Go.Proofs.YtmofaahhnokohaaW.Canon
open Go.RowKit Go.Proofs.YtmofaahhnokohaaW.PrintWords Go.Proofs.YtmofaahhnokohaaW.PrintLast

section
variable {P : Program} {ops : Array Oper} {Q : Exit → Act → World → Prop} {md : Region.Mode} {S : World → Prop} {ds : List Nat}

/-- Kinds: 0 an effect, 1 what needs no memory, 2 what is read and held, 3 an effect behind which nothing is held. -/
def stepsC (P : Program) (ops : Array Oper) (Q : Exit → Act → World → Prop) (S : World → Prop) : List (Nat × Nat) → Act → World → Prop
  | [], a, w => Q .normal a w
  | (i, 1) :: rest, a, w => ∃ o v, ops[i]? = some o ∧ Yields P ops o v a ∧ stepsC P ops Q S rest (a.put o.dst v) w
  | (i, 2) :: rest, a, w => S w ∧ ∃ o v, ops[i]? = some o ∧ YieldsIf P ops S o v a ∧ stepsC P ops Q S rest (a.put o.dst v) w
  | (i, 0) :: rest, a, w => wpOp P ops Q i (fun a' w' => (S w → S w') ∧ stepsC P ops Q S rest a' w') a w
  | (i, _) :: rest, a, w => wpOp P ops Q i (fun a' w' => stepsC P ops Q S rest a' w') a w

def checkC (md : Region.Mode) (ops : Array Oper) (ds : List Nat) : List (Nat × Nat) → Array Bool → Bool
  | [], l => Region.ready md ops l == []
  | (i, 1) :: rest, l => Region.free md ops l i && (Region.ready md ops l).contains i && checkC md ops ds rest (l.setIfInBounds i true)
  | (i, 2) :: rest, l => Region.free md ops l i && (Region.ready md ops l).contains i && Region.closedB md ops l && Region.lastB md ops l ds i && checkC md ops ds rest (l.setIfInBounds i true)
  | (i, 0) :: rest, l => (Region.ready md ops l == [i]) && !ds.contains i && checkC md ops ds rest (l.setIfInBounds i true)
  | (i, _) :: rest, l => (Region.ready md ops l == [i]) && ds.contains i && checkC md ops ds rest (l.setIfInBounds i true)

theorem canon_any (hsel : Region.noSelect ops = true) (hQ : ∀ c d v a w, Q (.panic c) (Act.put a d v) w → Q (.panic c) a w) :
    ∀ (order : List (Nat × Nat)) (l : Array Bool) (a : Act) (w : World), checkC md ops ds order l = true → stepsC P ops Q S order a w →
      wpAnyLast P md ops Q S ds order.length l a w := by
  intro order
  induction order with
  | nil =>
    intro l a w hc h
    exact wpAnyLast_done (by simpa [checkC] using hc) h 0
  | cons x rest ih =>
    intro l a w hc h
    obtain ⟨i, k⟩ := x
    match k, hc, h with
    | 0, hc, h =>
      simp only [checkC, Bool.and_eq_true, beq_iff_eq, Bool.not_eq_true', List.contains_eq_mem, decide_eq_false_iff_not] at hc
      obtain ⟨⟨h1, h2⟩, h3⟩ := hc
      refine wpAnyLast_all h1 (by simp) (fun j hj => ?_)
      obtain rfl : j = i := by simpa using hj
      exact wpOp_mono (fun a' w' h' => ⟨fun _ => h'.1, ih _ _ _ h3 h'.2⟩) h
    | 1, hc, h =>
      simp only [checkC, Bool.and_eq_true] at hc
      obtain ⟨⟨h1, h2⟩, h3⟩ := hc
      obtain ⟨o, v, ho, hy, h⟩ := h
      exact wpAnyLast_any ho (Region.noSelect_spec hsel) (fun c a w => hQ c _ _ a w) rest.length l a w (Region.free_spec ho h1) (by simpa using h2) hy (ih _ _ _ h3 h)
    | 2, hc, h =>
      simp only [checkC, Bool.and_eq_true] at hc
      obtain ⟨⟨⟨⟨h1, h2⟩, h4⟩, h5⟩, h3⟩ := hc
      obtain ⟨hS, o, v, ho, hy, h⟩ := h
      exact wpAnyLast_take ho hsel h1 h2 h4 h5 (fun c a w => hQ c _ _ a w) hy hS (ih _ _ _ h3 h)
    | n + 3, hc, h =>
      simp only [checkC, Bool.and_eq_true, beq_iff_eq, List.contains_eq_mem, decide_eq_true_eq] at hc
      obtain ⟨⟨h1, h2⟩, h3⟩ := hc
      refine wpAnyLast_all h1 (by simp) (fun j hj => ?_)
      obtain rfl : j = i := by simpa using hj
      exact wpOp_mono (fun a' w' h' => ⟨fun hn => absurd h2 hn, ih _ _ _ h3 h'⟩) h

/-- THE REGION: S is shown of the world behind the draw; the order's check is the kernel's. -/
theorem canon {id n : Nat} {a : Act} {w : World} (order : List (Nat × Nat)) (ds : List Nat) (S : World → Prop) (hm : P.follows .mixedOrders = true) (hn : ops.size = n) (hlen : order.length = n)
    (hc : (Region.noSelect ops && checkC .any ops ds order (Array.replicate n false)) = true) (hQ : ∀ c d v a w, Q (.panic c) (Act.put a d v) w → Q (.panic c) a w)
    (h : ∀ w1, Below w.heap.size w w1 → Aside0 (w1.heap = w.heap) → stepsC P ops Q S order a w1) : (Code.region id ops true).wp P Q a w := by
  subst hn
  simp only [Bool.and_eq_true] at hc
  refine wp_region_last (S := S) (ds := ds) hm ?_
  rw [← hlen]
  exact canon_any hc.1 hQ order _ a _ (by rw [hlen]; exact hc.2) (h w.drew (below_drew1 (Below.refl _ _)) ⟨rfl⟩)

/-- The operation at a place, as a term that whnf lays bare. -/
def opAt : List Oper → Nat → Option Oper
  | [], _ => none
  | o :: _, 0 => some o
  | _ :: l, n + 1 => opAt l n
theorem opAt_eq : ∀ (l : List Oper) (i : Nat), opAt l i = l[i]?
  | [], i => by simp [opAt]
  | o :: l, 0 => by simp [opAt]
  | o :: l, n + 1 => by simp [opAt, opAt_eq l n]
theorem opAt_some {i : Nat} {o : Oper} (h : opAt ops.toList i = some o) : ops[i]? = some o := by
  rw [opAt_eq] at h
  rwa [Array.getElem?_toList] at h
theorem c_pure {i : Nat} {rest : List (Nat × Nat)} {a : Act} {w : World} {o : Oper} {N : Option Tmp} (ho : opAt ops.toList i = some o) (hN : o.dst = N) (hw : Region.wanted o (yielded ops a.tmps) = true)
    {v : Value} (hy : ∀ w, (execOp a.eval o).run P w = .ok (.value v) w) {a' : Act} (ha : a.put N v = a') (h : stepsC P ops Q S rest a' w) : stepsC P ops Q S ((i, 1) :: rest) a w := by
  subst hN
  subst ha
  exact ⟨o, v, opAt_some ho, .inl ⟨hw, hy⟩, h⟩
theorem c_off {i : Nat} {rest : List (Nat × Nat)} {a : Act} {w : World} {o : Oper} {N : Option Tmp} (ho : opAt ops.toList i = some o) (hN : o.dst = N) (hw : Region.wanted o (yielded ops a.tmps) = false)
    {a' : Act} (ha : a.put N undef = a') (h : stepsC P ops Q S rest a' w) : stepsC P ops Q S ((i, 1) :: rest) a w := by
  subst hN
  subst ha
  exact ⟨o, undef, opAt_some ho, .inr ⟨hw, rfl⟩, h⟩
theorem c_held {i : Nat} {rest : List (Nat × Nat)} {a : Act} {w : World} {o : Oper} {N : Option Tmp} (ho : opAt ops.toList i = some o) (hN : o.dst = N) (hw : Region.wanted o (yielded ops a.tmps) = true)
    (hS : S w) {v : Value} (hy : ∀ w, S w → (execOp a.eval o).run P w = .ok (.value v) w) {a' : Act} (ha : a.put N v = a') (h : stepsC P ops Q S rest a' w) : stepsC P ops Q S ((i, 2) :: rest) a w := by
  subst hN
  subst ha
  exact ⟨hS, o, v, opAt_some ho, .inl ⟨hw, hy⟩, h⟩
theorem c_eff {i : Nat} {rest : List (Nat × Nat)} {a : Act} {w : World} {o : Oper} (ho : opAt ops.toList i = some o)
    (h : ∀ K : Act → World → Prop, Shut (∀ a' w', (S w → S w') → stepsC P ops Q S rest a' w' → K a' w') → if Region.wanted o (yielded ops a.tmps) = true then Oper.wp P o a w K Q else K (a.put o.dst undef) w) : stepsC P ops Q S ((i, 0) :: rest) a w := by
  show wpOp P ops Q i _ a w
  simp only [wpOp, opAt_some ho]
  have h1 := h (fun a' w' => (S w → S w') ∧ stepsC P ops Q S rest a' w') (fun a' w' hs hr => ⟨hs, hr⟩)
  split
  · rename_i hw
    rw [if_pos hw] at h1
    exact .inl h1
  · rename_i hw
    rw [if_neg hw] at h1
    exact h1
theorem c_last {i : Nat} {rest : List (Nat × Nat)} {a : Act} {w : World} {o : Oper} (ho : opAt ops.toList i = some o)
    (h : ∀ K : Act → World → Prop, Shut (∀ a' w', stepsC P ops Q S rest a' w' → K a' w') → if Region.wanted o (yielded ops a.tmps) = true then Oper.wp P o a w K Q else K (a.put o.dst undef) w) : stepsC P ops Q S ((i, 3) :: rest) a w := by
  show wpOp P ops Q i _ a w
  simp only [wpOp, opAt_some ho]
  have h1 := h (fun a' w' => stepsC P ops Q S rest a' w') (fun a' w' hr => hr)
  split
  · rename_i hw
    rw [if_pos hw] at h1
    exact .inl h1
  · rename_i hw
    rw [if_neg hw] at h1
    exact h1
theorem run_load_row {o : Oper} {a : Act} {w : World} (ty : TypeId) (x : Operand) (ho : o.op = .load ty x)
    (g : Nat) (hx : a.eval x = .pointer (some ⟨g, 0, none⟩)) (t : TypeId) (cs : Array Value) (fr : Nat × Nat) (d : TypeDesc) (hg : w.heap[g]? = some (.cells cs t fr))
    (hu : P.underlying ty = some d) (hd : (match d with | .struct _ | .array _ _ => true | _ => false) = true) (hi : (P.info? ty).map (·.size) = some cs.size) :
    (execOp a.eval o).run P w = .ok (.value (.agg cs)) w := by
  unfold execOp
  simp only [ho, hx, Instr.loadAt, Instr.sureAddr, Sem.run_bind, Sem.run_pure, Result.andThen_ok, run_loadVar_row w g t ty cs fr d hg hu hd hi]
/-- A whole struct or array is read, and held. -/
theorem c_row {i : Nat} {rest : List (Nat × Nat)} {a : Act} {w : World} {o : Oper} {N : Option Tmp} (ho : opAt ops.toList i = some o) (hN : o.dst = N) (hw : Region.wanted o (yielded ops a.tmps) = true)
    (hS : S w) (ty : TypeId) (x : Operand) (hop : o.op = .load ty x) (g : Nat) (hx : a.eval x = .pointer (some ⟨g, 0, none⟩)) (t : TypeId) (cs : Array Value) (fr : Nat × Nat) (d : TypeDesc) (hg : ∀ w, S w → w.heap[g]? = some (.cells cs t fr))
    (hu : P.underlying ty = some d) (hd : (match d with | .struct _ | .array _ _ => true | _ => false) = true) (hi : (P.info? ty).map (·.size) = some cs.size)
    {a' : Act} (ha : a.put N (.agg cs) = a') (h : stepsC P ops Q S rest a' w) : stepsC P ops Q S ((i, 2) :: rest) a w :=
  c_held ho hN hw hS (fun w hs => run_load_row ty x hop g hx t cs fr d (hg w hs) hu hd hi) ha h
theorem run_load_cell {o : Oper} {a : Act} {w : World} (ty : TypeId) (x : Operand) (ho : o.op = .load ty x) (p : Addr) (hx : a.eval x = .pointer (some p)) (v : Value) (hc : w.cell? p = some v)
    (d : TypeDesc) (hu : P.underlying ty = some d) (hd : (match d with | .struct _ | .array _ _ => true | _ => false) = false) : (execOp a.eval o).run P w = .ok (.value v) w := by
  have hagg : (isAgg ty).run P w = .ok false w := by
    unfold isAgg
    rw [Sem.run_bind, run_underlying hu w]
    cases d <;> simp_all
  unfold execOp
  simp [ho, hx, Instr.loadAt, Instr.sureAddr, loadVar, Sem.run_bind, hagg, hc]
/-- One cell is read, and held. -/
theorem c_cell {i : Nat} {rest : List (Nat × Nat)} {a : Act} {w : World} {o : Oper} {N : Option Tmp} (ho : opAt ops.toList i = some o) (hN : o.dst = N) (hw : Region.wanted o (yielded ops a.tmps) = true)
    (hS : S w) (ty : TypeId) (x : Operand) (hop : o.op = .load ty x) (p : Addr) (hx : a.eval x = .pointer (some p)) (v : Value) (hc : ∀ w, S w → w.cell? p = some v) {d : TypeDesc}
    (hu : P.underlying ty = some d) (hd : (match d with | .struct _ | .array _ _ => true | _ => false) = false)
    {a' : Act} (ha : a.put N v = a') (h : stepsC P ops Q S rest a' w) : stepsC P ops Q S ((i, 2) :: rest) a w :=
  c_held ho hN hw hS (fun w hs => run_load_cell ty x hop p hx v (hc w hs) d hu hd) ha h
/-- The act is undrawn by its guard. -/
theorem c_off2 {i : Nat} {rest : List (Nat × Nat)} {a : Act} {w : World} {o : Oper} {N : Option Tmp} (ho : opAt ops.toList i = some o) (hN : o.dst = N) (hw : Region.wanted o (yielded ops a.tmps) = false) (hS : S w)
    {a' : Act} (ha : a.put N undef = a') (h : stepsC P ops Q S rest a' w) : stepsC P ops Q S ((i, 2) :: rest) a w := by
  subst hN
  subst ha
  exact ⟨hS, o, undef, opAt_some ho, .inr ⟨hw, rfl⟩, h⟩
theorem c_norm {rest : List (Nat × Nat)} {a : Act} {w : World} {a' : Act} (ha : a = a') (h : stepsC P ops Q S rest a' w) : stepsC P ops Q S rest a w := by
  subst ha
  exact h
theorem c_done {a : Act} {w : World} (h : Q .normal a w) : stepsC P ops Q S [] a w := h
end
end Go.Proofs.YtmofaahhnokohaaW.Canon
