/- Walk: (*lex.text).end. -/
import Derived.Test.YthnmaaoafogbiaaPLexAllx0
import Derived.Test.YthnmaaoafogbiaaCanon
namespace Go.Proofs.Ythnmaaoafogbiaa.Lex
set_option linter.unusedSimpArgs false
set_option linter.unusedVariables false
open Go.RowKit Go.Proofs.YthnmaaoafogbiaaW.PrintWords Go.Proofs.YthnmaaoafogbiaaW.PrintLast Go.Proofs.YthnmaaoafogbiaaW.PrintMore PLexAll Go.Proofs.YthnmaaoafogbiaaW.Canon
theorem max2_mx (k k' : IntKind) (x y : Int) : Builtin.max2 (.int k x) (.int k' y) = pure (.int k (mx x y)) := by simp only [Builtin.max2, gt_iff_lt, mx]
theorem min2_mn (k k' : IntKind) (x y : Int) : Builtin.min2 (.int k x) (.int k' y) = pure (.int k (mn x y)) := by simp only [Builtin.min2, mn]
attribute [local go_sem] max2_mx min2_mn max_two min_two max_three min_three max_four min_four
theorem ret_int {k : IntKind} {a b : Int} (h : a = b) : Ending.returned (.int k a) = Ending.returned (.int k b) := by rw [h]
theorem ret_bool {a b : Bool} (h : a = b) : Ending.returned (.bool a) = Ending.returned (.bool b) := by rw [h]

def bs (l : List UInt8) : ByteArray := ⟨l.toArray⟩
/-- A text under way. -/
structure TX where
  l : List S31
  line : Int
  kind : Int
  s : List UInt8
  less : Bool
  rem : Bool
  bad : Bool
def TX.cells (v : Value) (x : TX) : Array Value := #[v, .int .i64 x.line, .int .i64 x.kind, .string (bs x.s), .bool x.less, .bool x.rem, .bool x.bad]
def TxAt (w : World) (b base : Nat) (x : TX) : Prop := ∃ v, w.heap[b]? = some (.cells (x.cells v) 45 (0, 0)) ∧ k31.R 30 w base (fun k => k ≠ b) v x.l
def numOf (l : List UInt8) : Int := l.foldl (fun n c => mn (n * 10 + ((c.toNat : Int) - 48) % 256) 2147483649) 0
def signed (less : Bool) (n : Int) : Int := if less = true then -n else n
def wrong (bad : Bool) (s : List UInt8) (n : Int) : Bool := bad || (s.isEmpty || (decide (n < -2147483648) || decide (2147483647 < n)))
def endT (x : TX) : TX :=
  if x.kind = 1 then { x with l := x.l ++ [⟨1, bs x.s, 0, x.line⟩], kind := 0, s := [], less := false }
  else if x.kind = 2 then { x with l := x.l ++ [⟨2, bs [], signed x.less (numOf x.s), x.line⟩], bad := wrong x.bad x.s (signed x.less (numOf x.s)), kind := 0, s := [], less := false }
  else x

theorem info30 : (Try.prog.info? 30).map (fun i => (i.zero, i.size, i.bytes)) = some (some (.agg #[(.int .i64 0), (.string ⟨#[]⟩), (.int .i64 0), (.int .i64 0)]), 4, 40) := by kernel_rfl

/-- What the walks read of a text under way. -/
theorem TxAt.reads {w : World} {b : Nat} {x : TX} {v : Value} (h : w.heap[b]? = some (.cells (x.cells v) 45 (0, 0))) :
    (w.cell? ⟨b, 0, none⟩ = some v ∧ w.cell? ⟨b, 1, none⟩ = some (.int .i64 x.line) ∧ w.cell? ⟨b, 2, none⟩ = some (.int .i64 x.kind) ∧ w.cell? ⟨b, 3, none⟩ = some (.string (bs x.s)) ∧ w.cell? ⟨b, 4, none⟩ = some (.bool x.less) ∧ w.cell? ⟨b, 5, none⟩ = some (.bool x.rem) ∧ w.cell? ⟨b, 6, none⟩ = some (.bool x.bad)) ∧
    (w.frozen? ⟨b, 0, none⟩ = false ∧ w.frozen? ⟨b, 1, none⟩ = false ∧ w.frozen? ⟨b, 2, none⟩ = false ∧ w.frozen? ⟨b, 3, none⟩ = false ∧ w.frozen? ⟨b, 4, none⟩ = false ∧ w.frozen? ⟨b, 5, none⟩ = false ∧ w.frozen? ⟨b, 6, none⟩ = false) :=
  ⟨⟨cell_of_row w b 0 _ 45 (0, 0) h, cell_of_row w b 1 _ 45 (0, 0) h, cell_of_row w b 2 _ 45 (0, 0) h, cell_of_row w b 3 _ 45 (0, 0) h, cell_of_row w b 4 _ 45 (0, 0) h, cell_of_row w b 5 _ 45 (0, 0) h, cell_of_row w b 6 _ 45 (0, 0) h⟩,
    ⟨blk_frozen h 0, blk_frozen h 1, blk_frozen h 2, blk_frozen h 3, blk_frozen h 4, blk_frozen h 5, blk_frozen h 6⟩⟩
theorem TxAt.of_below {w w1 : World} {b base : Nat} {x : TX} {v : Value} (hh : w.heap[b]? = some (.cells (x.cells v) 45 (0, 0))) (hr : k31.R 30 w base (fun k => k ≠ b) v x.l) (h : Below w.heap.size w w1) : TxAt w1 b base x :=
  ⟨v, (h.block _ (blk_lt hh)).trans hh, Kd.R_below hr h⟩
/-- Nothing below base but block b has been turned. -/
structure Kb (base b : Nat) (w w' : World) : Prop where
  os : w'.os = w.os
  tape : w'.tape = w.tape
  output : w'.output = w.output
  size : w.heap.size ≤ w'.heap.size
  keep : ∀ k, k < base → k ≠ b → w'.heap[k]? = w.heap[k]?
namespace Kb
variable {base b : Nat} {w w1 w2 : World}
theorem of (h : Below base w w1) : Kb base b w w1 := ⟨h.os, h.tape, h.output, h.size, fun k hk _ => h.block k hk⟩
theorem refl (base b : Nat) (w : World) : Kb base b w w := ⟨rfl, rfl, rfl, Nat.le_refl _, fun _ _ _ => rfl⟩
theorem join (h : Kb base b w w1) (h2 : Kb base b w1 w2) : Kb base b w w2 := ⟨h2.os.trans h.os, h2.tape.trans h.tape, h2.output.trans h.output, Nat.le_trans h.size h2.size, fun k hk hb => (h2.keep k hk hb).trans (h.keep k hk hb)⟩
theorem trans (h : Kb base b w w1) (h2 : Below base w1 w2) : Kb base b w w2 := h.join (of h2)
theorem alloc (h : Kb base b w w1) (hb : base ≤ w1.heap.size) (o : Obj) : Kb base b w (w1.alloc o) := h.trans ((Below.refl base w1).alloc hb o)
theorem setCell (h : Kb base b w w1) {p : Addr} (hp : base ≤ p.block) (u : Value) : Kb base b w (w1.setCell p u) := h.trans ((Below.refl base w1).setCell hp u)
theorem setB (h : Kb base b w w1) (j : Nat) (u : Value) : Kb base b w (w1.setCell ⟨b, j, none⟩ u) :=
  h.join ⟨rfl, rfl, rfl, by simp [World.setCell], fun k _ hb => Below.heap_setCell w1 ⟨b, j, none⟩ u k hb⟩
end Kb

theorem slice_of_R {w : World} {base : Nat} {ok : Nat → Prop} {v : Value} {l : List S31} (h : k31.R 30 w base ok v l) : ∃ A n c, v = .slice A n c := by
  obtain ⟨A, c, he⟩ := Kd.R_slice h
  exact ⟨A, _, c, he⟩
theorem bs_size (l : List UInt8) : (bs l).size = l.length := rfl
theorem bt_bs (l : List UInt8) (i : Nat) (h : i < l.length) : bt (bs l) i = ((l[i]'h).toNat : Int) := by
  have h1 : ((i : Int)).toNat < (bs l).size := by rw [bs_size, Int.toNat_natCast]; exact h
  rw [bt, dif_pos h1]
  simp only [Int.toNat_natCast]
  rfl
theorem numOf_nil : numOf [] = 0 := rfl
theorem numOf_take (l : List UInt8) (i : Nat) (h : i < l.length) : numOf (l.take (i + 1)) = mn (numOf (l.take i) * 10 + (bt (bs l) i - 48) % 256) 2147483649 := by
  rw [List.take_succ_eq_append_getElem h, numOf, List.foldl_append]
  simp only [List.foldl_cons, List.foldl_nil, bt_bs l i h]
  rfl
theorem numOf_bound (l : List UInt8) : 0 ≤ numOf l ∧ numOf l ≤ 2147483649 := by
  suffices h : ∀ n : Int, 0 ≤ n → n ≤ 2147483649 → 0 ≤ l.foldl (fun n c => mn (n * 10 + ((c.toNat : Int) - 48) % 256) 2147483649) n ∧ l.foldl (fun n c => mn (n * 10 + ((c.toNat : Int) - 48) % 256) 2147483649) n ≤ 2147483649 from h 0 (by decide) (by decide)
  induction l with
  | nil => intro n h0 h1; exact ⟨h0, h1⟩
  | cons c l ih =>
    intro n h0 h1
    refine ih _ ?_ ?_ <;> simp only [mn] <;> split <;> omega
theorem wrap64_id (n : Int) (h : -9223372036854775808 ≤ n ∧ n ≤ 9223372036854775807) : wrap64 n = n := by simp only [wrap64]; omega
theorem u8w (n : Int) : IntKind.u8.wrap n = n % 256 := by rfl
theorem numStep (s : List UInt8) (i : Nat) (h : i < s.length) (M : Int) (hM : 0 ≤ M ∧ M ≤ 2147483649) :
    mn (wrap64 (wrap64 (M * 10) + wrap64 (IntKind.u8.wrap (((bs s)[i]'(show i < (bs s).size from h)).toNat - 48)))) 2147483649 = mn (M * 10 + (bt (bs s) i - 48) % 256) 2147483649 := by
  have h1 : (((bs s)[i]'(show i < (bs s).size from h)).toNat : Int) = bt (bs s) i := by rw [bt_bs s i h]; rfl
  rw [h1, u8w, wrap64_id (M * 10) (by omega), wrap64_id ((bt (bs s) i - 48) % 256) (by omega), wrap64_id _ (by omega)]
/-- The text under way, its token (block n1) beside it. -/
def XAt (w : World) (b n1 base : Nat) (x : TX) (v : Value) (S : ByteArray) (N : Int) : Prop :=
  w.heap[b]? = some (.cells (x.cells v) 45 (0, 0)) ∧ w.heap[n1]? = some (.cells #[.int .i64 x.kind, .string S, .int .i64 N, .int .i64 x.line] 30 (0, 0)) ∧ k31.R 30 w base (fun k => k ≠ b ∧ k ≠ n1) v x.l
theorem XAt.below {w w1 : World} {b n1 base : Nat} {x : TX} {v : Value} {S : ByteArray} {N : Int} (h : XAt w b n1 base x v S N) (hb : Below w.heap.size w w1) : XAt w1 b n1 base x v S N :=
  ⟨(hb.block _ (blk_lt h.1)).trans h.1, (hb.block _ (blk_lt h.2.1)).trans h.2.1, Kd.R_below h.2.2 hb⟩
theorem XAt.ne {w : World} {b n1 base : Nat} {x : TX} {v : Value} {S : ByteArray} {N : Int} (h : XAt w b n1 base x v S N) : b ≠ n1 := blk_ne h.1 h.2.1 (by decide)
theorem XAt.setS {w : World} {b n1 base : Nat} {x : TX} {v : Value} {S : ByteArray} {N : Int} (h : XAt w b n1 base x v S N) (S' : ByteArray) : XAt (w.setCell ⟨n1, 1, none⟩ (.string S')) b n1 base x v S' N :=
  ⟨blk_far h.1 h.ne _, blk_put h.2.1 1 _ rfl, Kd.R_far h.2.2 (fun _ hk => hk.2) _⟩
theorem XAt.setN {w : World} {b n1 base : Nat} {x : TX} {v : Value} {S : ByteArray} {N : Int} (h : XAt w b n1 base x v S N) (N' : Int) : XAt (w.setCell ⟨n1, 2, none⟩ (.int .i64 N')) b n1 base x v S N' :=
  ⟨blk_far h.1 h.ne _, blk_put h.2.1 2 _ rfl, Kd.R_far h.2.2 (fun _ hk => hk.2) _⟩
theorem XAt.setBad {w : World} {b n1 base : Nat} {x : TX} {v : Value} {S : ByteArray} {N : Int} (h : XAt w b n1 base x v S N) (c : Bool) : XAt (w.setCell ⟨b, 6, none⟩ (.bool c)) b n1 base { x with bad := c } v S N :=
  ⟨blk_put h.1 6 _ rfl, blk_far h.2.1 h.ne.symm _, Kd.R_far h.2.2 (fun _ hk => hk.1) _⟩
theorem XAt.x {w : World} {b n1 base : Nat} {x : TX} {v : Value} {S : ByteArray} {N : Int} (h : XAt w b n1 base x v S N) :
    (w.cell? ⟨n1, 0, none⟩ = some (.int .i64 x.kind) ∧ w.cell? ⟨n1, 1, none⟩ = some (.string S) ∧ w.cell? ⟨n1, 2, none⟩ = some (.int .i64 N) ∧ w.cell? ⟨n1, 3, none⟩ = some (.int .i64 x.line)) ∧ w.frozen? ⟨n1, 1, none⟩ = false ∧ w.frozen? ⟨n1, 2, none⟩ = false :=
  ⟨⟨cell_of_row w n1 0 _ 30 (0, 0) h.2.1, cell_of_row w n1 1 _ 30 (0, 0) h.2.1, cell_of_row w n1 2 _ 30 (0, 0) h.2.1, cell_of_row w n1 3 _ 30 (0, 0) h.2.1⟩, blk_frozen h.2.1 1, blk_frozen h.2.1 2⟩
/-- The end's last stores. -/
theorem end_tail {w : World} {b base : Nat} {x : TX} {v : Value} (h : w.heap[b]? = some (.cells (x.cells v) 45 (0, 0))) (hr : k31.R 30 w base (fun k => k ≠ b) v x.l) :
    TxAt (((w.setCell ⟨b, 2, none⟩ (.int .i64 0)).setCell ⟨b, 3, none⟩ (.string ⟨#[]⟩)).setCell ⟨b, 4, none⟩ (.bool false)) b base { x with kind := 0, s := [], less := false } := by
  have h1 := blk_put h 2 (.int .i64 0) (cs' := #[v, .int .i64 x.line, .int .i64 0, .string (bs x.s), .bool x.less, .bool x.rem, .bool x.bad]) rfl
  have h2 := blk_put h1 3 (.string ⟨#[]⟩) (cs' := #[v, .int .i64 x.line, .int .i64 0, .string ⟨#[]⟩, .bool x.less, .bool x.rem, .bool x.bad]) rfl
  have h3 := blk_put h2 4 (.bool false) (cs' := #[v, .int .i64 x.line, .int .i64 0, .string ⟨#[]⟩, .bool false, .bool x.rem, .bool x.bad]) rfl
  exact ⟨v, h3, Kd.R_far (Kd.R_far (Kd.R_far hr (fun _ h => h) _) (fun _ h => h) _) (fun _ h => h) _⟩
theorem below_three {w w1 : World} {b base : Nat} (h : Kb base b w w1) (u1 u2 u3 : Value) : Kb base b w (((w1.setCell ⟨b, 2, none⟩ u1).setCell ⟨b, 3, none⟩ u2).setCell ⟨b, 4, none⟩ u3) :=
  ((h.setB 2 u1).setB 3 u2).setB 4 u3



theorem bs_toList (l : List UInt8) : (bs l).toList = l := by rw [ByteArray.toList_eq]; rfl
theorem bs_empty (l : List UInt8) : (bs l).toList.isEmpty = l.isEmpty := by rw [bs_toList]
theorem wrong_bad {b : Bool} {s : List UInt8} {N : Int} (h : b = true) : wrong b s N = true := by rw [h]; rfl
theorem wrong_empty {b : Bool} {s : List UInt8} {N : Int} (h : b = false) (hs : (bs s).toList = []) : wrong b s N = true := by rw [bs_toList] at hs; rw [h, hs]; rfl
theorem wrong_low {b : Bool} {s : List UInt8} {N : Int} (h : b = false) (hn : N < -2147483648) : wrong b s N = true := by rw [h, wrong, decide_eq_true hn]; simp
theorem wrong_rest {b : Bool} {s : List UInt8} {N : Int} (h : b = false) (hn : ¬ N < -2147483648) : wrong b s N = ((bs s).toList.isEmpty || decide (2147483647 < N)) := by rw [h, wrong, bs_toList, decide_eq_false hn]; simp




set_option maxHeartbeats 1000000 in
theorem end_calls (w : World) (b base : Nat) (x : TX) (hb : base ≤ w.heap.size) (h : TxAt w b base x) (hl : x.l.length ≤ 100000) (hs : x.s.length ≤ 100000) :
    Calls Try.prog 18 #[.pointer (some ⟨b, 0, none⟩)] w fun e w' => e = .returned (.tuple #[]) ∧ TxAt w' b base (endT x) ∧ Kb base b w w' := by
  obtain ⟨v, hh, hr⟩ := h
  have HH := Aside0.mk hh
  have HR := Aside0.mk hr
  have hlt := blk_lt hh
  clear hh hr
  go_enter Try.func18, Try.ntmps18
  go_wp2_with (fail)
  refine canon [(0,1),(1,1),(2,1),(4,1),(5,1),(6,1),(3,2),(7,2),(8,1),(9,0),(10,3)] [10] (fun W => W.heap[b]? = some (.cells (x.cells v) 45 (0, 0))) (by kernel_rfl) rfl rfl (by kernel_rfl) (by intro c d v a w h; cases d <;> exact h) ?_
  intro w1 hb1 _
  have S1 := Aside0.mk ((hb1.block _ hlt).trans HH.out)
  have HR1 := Aside0.mk (Kd.R_below HR.out hb1)
  have HB1 := Aside0.mk (Kb.of (b := b) (hb1.mono hb))
  have hs1 := hb1.size
  clear hb1 HR HH
  have hlt1 := blk_lt S1.out
  repeat (first | (refine c_pure rfl rfl (by rfl) (v := ?_) ?_ (a' := ?_) ?_ ?_; rotate_left; (focus (intro w'; go_simp; with_reducible rfl)); rotate_left; (focus ((try simp only [Act.put, List.setIfInBounds_toArray, List.set_cons_zero, List.set_cons_succ, i64_w, i32_w]); rfl))) | (refine c_off rfl rfl (by rfl) (a' := ?_) ?_ ?_; rotate_left; (focus ((try simp only [Act.put, List.setIfInBounds_toArray, List.set_cons_zero, List.set_cons_succ, i64_w, i32_w]); rfl))))
  (refine c_cell rfl rfl (by rfl) (S1.out) 3 (.tmp 6) rfl (⟨b, 2, none⟩) rfl (.int .i64 x.kind) (fun w' hS' => cell_of_row w' b 2 _ 45 (0, 0) hS') Try.underlying3 rfl (a' := ?_) ?_ ?_; rotate_left; (focus ((try simp only [Act.put, List.setIfInBounds_toArray, List.set_cons_zero, List.set_cons_succ, i64_w, i32_w]); rfl)))
  (refine c_cell rfl rfl (by rfl) (S1.out) 3 (.tmp 10) rfl (⟨b, 1, none⟩) rfl (.int .i64 x.line) (fun w' hS' => cell_of_row w' b 1 _ 45 (0, 0) hS') Try.underlying3 rfl (a' := ?_) ?_ ?_; rotate_left; (focus ((try simp only [Act.put, List.setIfInBounds_toArray, List.set_cons_zero, List.set_cons_succ, i64_w, i32_w]); rfl)))
  repeat (first | (refine c_pure rfl rfl (by rfl) (v := ?_) ?_ (a' := ?_) ?_ ?_; rotate_left; (focus (intro w'; go_simp; with_reducible rfl)); rotate_left; (focus ((try simp only [Act.put, List.setIfInBounds_toArray, List.set_cons_zero, List.set_cons_succ, i64_w, i32_w]); rfl))) | (refine c_off rfl rfl (by rfl) (a' := ?_) ?_ ?_; rotate_left; (focus ((try simp only [Act.put, List.setIfInBounds_toArray, List.set_cons_zero, List.set_cons_succ, i64_w, i32_w]); rfl))))
  refine c_eff rfl (fun K hK => ?_)
  go_simp
  refine hK _ _ (fun h => (Below.heap_alloc _ _ _ (blk_lt h)).trans h) ?_
  clear hK K
  (refine c_norm (a' := ?_) ?_ ?_; rotate_left; (focus ((try simp only [Act.put, List.setIfInBounds_toArray, List.set_cons_zero, List.set_cons_succ, i64_w, i32_w]); rfl)))
  refine c_last rfl (fun K hK => ?_)
  go_simp
  refine hK _ _ ?_
  clear hK K
  (refine c_norm (a' := ?_) ?_ ?_; rotate_left; (focus ((try simp only [Act.put, List.setIfInBounds_toArray, List.set_cons_zero, List.set_cons_succ, i64_w, i32_w]); rfl)))
  refine c_done ?_
  have S2 := Aside0.mk (show XAt (w1.alloc (.cells #[.int .i64 x.kind, .string ⟨#[]⟩, .int .i64 0, .int .i64 x.line] 30)) b w1.heap.size base x v ⟨#[]⟩ 0 from ⟨(Below.heap_alloc _ _ _ hlt1).trans S1.out, heap_alloc_new _ _, Kd.R_below (Kd.R_mono (Kd.R_bound HR1.out) (fun k hk => ⟨hk.1, Nat.ne_of_lt hk.2.2.1⟩)) (below_alloc (Below.refl _ _) _)⟩)
  have HB2 := Aside0.mk (HB1.out.alloc (show base ≤ w1.heap.size by omega) (.cells #[.int .i64 x.kind, .string ⟨#[]⟩, .int .i64 0, .int .i64 x.line] 30))
  have hn1 : base ≤ w1.heap.size := by omega
  clear HR1 HB1 S1
  revert S2 HB2 hn1
  generalize w1.alloc (.cells #[.int .i64 x.kind, .string ⟨#[]⟩, .int .i64 0, .int .i64 x.line] 30) = w2
  generalize w1.heap.size = n1
  intro S2 HB2 hn1
  obtain ⟨⟨c0, c1, c2, c3, c4, c5, c6⟩, f0, f1, f2, f3, f4, f5, f6⟩ := TxAt.reads S2.out.1
  obtain ⟨⟨d0, d1, d2, d3⟩, g1, g2⟩ := S2.out.x
  by_cases h1 : x.kind = 1
  · have t1 : (x.kind == 1) = true := beq_iff_eq.mpr h1
    have e : endT x = { x with l := x.l ++ [⟨x.kind, bs x.s, 0, x.line⟩], kind := 0, s := [], less := false } := by rw [endT, if_pos h1, h1]
    have E := Aside0.mk e
    have S3 := Aside0.mk (S2.out.setS (bs x.s))
    have HB3 := Aside0.mk (HB2.out.setCell (show base ≤ (⟨n1, 1, none⟩ : Addr).block from hn1) (.string (bs x.s)))
    clear h1 e S2 HB2
    go_wp2
    clear c0 c1 c2 c3 c4 c5 c6 f0 f1 f2 f3 f4 f5 f6 d0 d1 d2 d3 g1 g2
    revert S3 HB3
    generalize w2.setCell ⟨n1, 1, none⟩ (.string (bs x.s)) = w2
    intro S2 HB2
    have hs2 := HB2.out.size
    refine canon [(0,1),(1,1),(2,1),(3,1),(4,2),(5,2),(6,0),(7,3),(8,1),(9,1),(10,3)] [7,10] (fun W => XAt W b n1 base x v (bs x.s) 0) (by kernel_rfl) rfl rfl (by kernel_rfl) (by intro c d v a w h; cases d <;> exact h) ?_
    intro w3 hb3 _
    have S3 := Aside0.mk (S2.out.below hb3)
    have HB3 := Aside0.mk (HB2.out.trans (hb3.mono (show base ≤ w2.heap.size by omega)))
    have hs3 := HB3.out.size
    have hl3 := blk_lt S3.out.1
    clear hb3 HB2 S2
    repeat (first | (refine c_pure rfl rfl (by rfl) (v := ?_) ?_ (a' := ?_) ?_ ?_; rotate_left; (focus (intro w'; go_simp; with_reducible rfl)); rotate_left; (focus ((try simp only [Act.put, List.setIfInBounds_toArray, List.set_cons_zero, List.set_cons_succ, i64_w, i32_w]); rfl))) | (refine c_off rfl rfl (by rfl) (a' := ?_) ?_ ?_; rotate_left; (focus ((try simp only [Act.put, List.setIfInBounds_toArray, List.set_cons_zero, List.set_cons_succ, i64_w, i32_w]); rfl))))
    (refine c_cell rfl rfl (by rfl) (S3.out) 22 (.tmp 84) rfl (⟨b, 0, none⟩) rfl (v) (fun w' hS' => cell_of_row w' b 0 _ 45 (0, 0) hS'.1) Try.underlying22 rfl (a' := ?_) ?_ ?_; rotate_left; (focus ((try simp only [Act.put, List.setIfInBounds_toArray, List.set_cons_zero, List.set_cons_succ, i64_w, i32_w]); rfl)))
    (refine c_row rfl rfl (by rfl) S3.out 30 (.tmp 2) rfl n1 rfl 30 _ (0, 0) _ (fun w' hS' => hS'.2.1) Try.underlying30 rfl (by kernel_rfl) (a' := ?_) ?_ ?_; rotate_left; (focus ((try simp only [Act.put, List.setIfInBounds_toArray, List.set_cons_zero, List.set_cons_succ, i64_w, i32_w]); rfl)))
    refine c_eff rfl (fun K hK => ?_)
    go_simp
    refine hK _ _ (fun h => h.below (below_alloc (Below.refl _ _) _)) ?_
    clear hK K
    (refine c_norm (a' := ?_) ?_ ?_; rotate_left; (focus ((try simp only [Act.put, List.setIfInBounds_toArray, List.set_cons_zero, List.set_cons_succ, i64_w, i32_w]); rfl)))
    refine c_last rfl (fun K hK => ?_)
    refine Kd.R_append_step k31 (w0 := w3) base (by rfl) (.tmp 85) (.tmp 87) 22 30 (.agg #[(.int .i64 0), (.string ⟨#[]⟩), (.int .i64 0), (.int .i64 0)]) 40 rfl Try.underlying22 info30 rfl (by decide) (by omega) v x.l ⟨x.kind, (bs x.s), 0, x.line⟩ [.int .i64 x.kind, .string (bs x.s), .int .i64 0, .int .i64 x.line] (fun k => k ≠ b) (fun _ => False) rfl rfl (k31_mkM _ _ _ ⟨x.kind, (bs x.s), 0, x.line⟩) (fun _ hk => hk.elim) (fun k hk => by omega) (Kd.R_mono S3.out.2.2 (fun _ hk => hk.1)) (Below.refl base w3) (by omega) (by omega) ?_
    intro v1 w4 ho hb4 hg _
    obtain ⟨A1, n2, k1, rfl⟩ := slice_of_R ho
    refine hK _ _ ?_
    clear hK K
    have h4 := blk_grown S3.out.1 hg (fun h => (S3.out.2.2.1 b h.symm).1 rfl)
    have S4 := Aside0.mk (blk_put h4 0 (.slice A1 n2 k1) (cs' := (({ x with l := x.l ++ [⟨x.kind, bs x.s, 0, x.line⟩] } : TX)).cells (.slice A1 n2 k1)) rfl)
    have HR4 := Aside0.mk (Kd.R_far (p := ⟨b, 0, none⟩) ho (fun _ h => h) (.slice A1 n2 k1))
    have HB4 := Aside0.mk ((HB3.out.trans hb4).setB 0 (.slice A1 n2 k1))
    have f4 := blk_frozen h4 0
    have c4 := cell_of_row _ b 0 _ 45 (0, 0) h4
    clear ho hb4 hg h4 S3 HB3
    (refine c_norm (a' := ?_) ?_ ?_; rotate_left; (focus ((try simp only [Act.put, List.setIfInBounds_toArray, List.set_cons_zero, List.set_cons_succ, i64_w, i32_w]); rfl)))
    repeat (first | (refine c_pure rfl rfl (by rfl) (v := ?_) ?_ (a' := ?_) ?_ ?_; rotate_left; (focus (intro w'; go_simp; with_reducible rfl)); rotate_left; (focus ((try simp only [Act.put, List.setIfInBounds_toArray, List.set_cons_zero, List.set_cons_succ, i64_w, i32_w]); rfl))) | (refine c_off rfl rfl (by rfl) (a' := ?_) ?_ ?_; rotate_left; (focus ((try simp only [Act.put, List.setIfInBounds_toArray, List.set_cons_zero, List.set_cons_succ, i64_w, i32_w]); rfl))))
    refine c_last rfl (fun K hK => ?_)
    go_simp
    refine hK _ _ ?_
    clear hK K f4 c4
    (refine c_norm (a' := ?_) ?_ ?_; rotate_left; (focus ((try simp only [Act.put, List.setIfInBounds_toArray, List.set_cons_zero, List.set_cons_succ, i64_w, i32_w]); rfl)))
    refine c_done ?_
    obtain ⟨⟨_, _, c2, c3, c4, _, _⟩, _, _, f2, f3, f4, _, _⟩ := TxAt.reads (x := ({ x with l := x.l ++ [⟨x.kind, bs x.s, 0, x.line⟩] } : TX)) S4.out
    go_wp2
    go_end0
    rw [E.out]
    exact ⟨rfl, end_tail (x := ({ x with l := x.l ++ [⟨x.kind, bs x.s, 0, x.line⟩] } : TX)) S4.out HR4.out, below_three HB4.out _ _ _⟩
  · by_cases h2 : x.kind = 2
    · have t1 : (x.kind == 1) = false := beq_eq_false_iff_ne.mpr h1
      have t2 : (x.kind == 2) = true := beq_iff_eq.mpr h2
      have K2 := Aside0.mk h2
      clear h1 h2
      go_wp2
      clear c0 c1 c2 c3 c4 c5 c6 f0 f1 f2 f3 f4 f5 f6 d0 d1 d2 d3 g1 g2
      go_loopw [3, 31] (fun _ v31 w' => ∃ i : Nat, v31 = .int .i64 i ∧ i ≤ x.s.length ∧ Aside0 (XAt w' b n1 base x v ⟨#[]⟩ (numOf (x.s.take i))) ∧ Aside0 (Kb base b w w')) (fun _ i _ => x.s.length - (intOf i).toNat)
      case atStart => exact ⟨0, rfl, by omega, S2, HB2⟩
      case round =>
        obtain ⟨i, rfl, hi, S, HB⟩ := hrel
        have hsz : Aside0 ((bs x.s).size = x.s.length) := ⟨rfl⟩
        by_cases hlt : i < x.s.length
        · have dlt : decide ((i : Int) < ((bs x.s).size : Int)) = true := decide_eq_true (by rw [bs_size]; omega)
          have p := eq_true (show 0 ≤ (i : Int) by omega)
          have q := eq_true (show (i : Int) < ((bs x.s).size : Int) by rw [bs_size]; omega)
          have hx := bt_at (bs x.s) i
          have hbr := bt_range (bs x.s) i
          have hn := numOf_take x.s i hlt
          have hnb := numOf_bound (x.s.take i)
          have hlb := blk_lt S.out.1
          have hln := HB.out.size
          revert hn hnb S
          generalize numOf (x.s.take i) = M
          intro S hn hnb
          have HN := Aside0.mk hn
          clear hn
          go_wp2
          refine canon [(0,1),(3,1),(4,1),(5,1),(7,1),(1,2),(2,1),(6,2),(8,1),(9,1),(10,1),(11,1),(12,1),(13,1),(14,3)] [14] (fun W => XAt W b n1 base x v ⟨#[]⟩ M) (by kernel_rfl) rfl rfl (by kernel_rfl) (by intro c d v a w h; cases d <;> exact h) ?_
          intro w3 hb3 _
          have S3 := Aside0.mk (S.out.below hb3)
          have HB3 := Aside0.mk (HB.out.trans (hb3.mono (show base ≤ wr.heap.size by omega)))
          clear hb3 HB S
          have g2 := S3.out.x.2.2
          have d2 := S3.out.x.1.2.2.1
          repeat (first | (refine c_pure rfl rfl (by rfl) (v := ?_) ?_ (a' := ?_) ?_ ?_; rotate_left; (focus (intro w'; go_simp; with_reducible rfl)); rotate_left; (focus ((try simp only [Act.put, List.setIfInBounds_toArray, List.set_cons_zero, List.set_cons_succ, i64_w, i32_w]); rfl))) | (refine c_off rfl rfl (by rfl) (a' := ?_) ?_ ?_; rotate_left; (focus ((try simp only [Act.put, List.setIfInBounds_toArray, List.set_cons_zero, List.set_cons_succ, i64_w, i32_w]); rfl))))
          (refine c_cell rfl rfl (by rfl) (S3.out) 3 (.tmp 34) rfl (⟨n1, 2, none⟩) rfl (.int .i64 M) (fun w' hS' => cell_of_row w' n1 2 _ 30 (0, 0) hS'.2.1) Try.underlying3 rfl (a' := ?_) ?_ ?_; rotate_left; (focus ((try simp only [Act.put, List.setIfInBounds_toArray, List.set_cons_zero, List.set_cons_succ, i64_w, i32_w]); rfl)))
          repeat (first | (refine c_pure rfl rfl (by rfl) (v := ?_) ?_ (a' := ?_) ?_ ?_; rotate_left; (focus (intro w'; go_simp; with_reducible rfl)); rotate_left; (focus ((try simp only [Act.put, List.setIfInBounds_toArray, List.set_cons_zero, List.set_cons_succ, i64_w, i32_w]); rfl))) | (refine c_off rfl rfl (by rfl) (a' := ?_) ?_ ?_; rotate_left; (focus ((try simp only [Act.put, List.setIfInBounds_toArray, List.set_cons_zero, List.set_cons_succ, i64_w, i32_w]); rfl))))
          (refine c_cell rfl rfl (by rfl) (S3.out) 9 (.tmp 39) rfl (⟨b, 3, none⟩) rfl (.string (bs x.s)) (fun w' hS' => cell_of_row w' b 3 _ 45 (0, 0) hS'.1) Try.underlying9 rfl (a' := ?_) ?_ ?_; rotate_left; (focus ((try simp only [Act.put, List.setIfInBounds_toArray, List.set_cons_zero, List.set_cons_succ, i64_w, i32_w]); rfl)))
          repeat (first | (refine c_pure rfl rfl (by rfl) (v := ?_) ?_ (a' := ?_) ?_ ?_; rotate_left; (focus (intro w'; go_simp; with_reducible rfl)); rotate_left; (focus ((try simp only [Act.put, List.setIfInBounds_toArray, List.set_cons_zero, List.set_cons_succ, i64_w, i32_w]); rfl))) | (refine c_off rfl rfl (by rfl) (a' := ?_) ?_ ?_; rotate_left; (focus ((try simp only [Act.put, List.setIfInBounds_toArray, List.set_cons_zero, List.set_cons_succ, i64_w, i32_w]); rfl))))
          refine c_last rfl (fun K hK => ?_)
          go_simp
          refine hK _ _ ?_
          clear hK K g2 d2
          (refine c_norm (a' := ?_) ?_ ?_; rotate_left; (focus ((try simp only [Act.put, List.setIfInBounds_toArray, List.set_cons_zero, List.set_cons_succ, i64_w, i32_w]); rfl)))
          refine c_done ?_
          have S4 := Aside0.mk (S3.out.setN (numOf (x.s.take (i + 1))))
          have HB4 := Aside0.mk (HB3.out.setCell (show base ≤ (⟨n1, 2, none⟩ : Addr).block from hn1) (.int .i64 (numOf (x.s.take (i + 1)))))
          rw [numStep x.s i hlt M hnb, ← HN.out]
          revert S4 HB4
          generalize w3.setCell ⟨n1, 2, none⟩ (.int .i64 (numOf (x.s.take (i + 1)))) = w4
          intro S4 HB4
          go_wp2
          go_roundw
          case rel => exact ⟨i + 1, by go_num, by omega, S4, HB4⟩
          case measure => simp [intOf]; omega
        · have dlt : decide ((i : Int) < ((bs x.s).size : Int)) = false := decide_eq_false (by rw [bs_size]; omega)
          obtain rfl : i = x.s.length := by omega
          rw [List.take_length] at S
          have hnb := numOf_bound x.s
          have ew : Aside0 (endT x = { x with l := x.l ++ [⟨x.kind, ⟨#[]⟩, signed x.less (numOf x.s), x.line⟩], bad := wrong x.bad x.s (signed x.less (numOf x.s)), kind := 0, s := [], less := false }) := ⟨by rw [endT, if_neg (by rw [K2.out]; decide), if_pos K2.out, K2.out]; rfl⟩
          revert S hnb ew
          generalize numOf x.s = M
          intro S hnb ew
          obtain ⟨⟨c0, c1, c2, c3, c4, c5, c6⟩, f0, f1, f2, f3, f4, f5, f6⟩ := TxAt.reads S.out.1
          obtain ⟨⟨d0, d1, d2, d3⟩, g1, g2⟩ := S.out.x
          rcases hless : x.less
          · rw [hless] at c4
            rw [show signed x.less M = M by rw [hless]; rfl] at ew
            have S7 := Aside0.mk S.out
            have HB7 := Aside0.mk HB.out
            rcases hbad : x.bad
            · rw [hbad] at c6
              by_cases hem : (bs x.s).toList = []
              · go_wp2
                clear c0 c1 c2 c3 c4 c5 c6 f0 f1 f2 f3 f4 f5 f6 d0 d1 d2 d3 g1 g2
                have E : Aside0 (endT x = { x with l := x.l ++ [⟨x.kind, ⟨#[]⟩, M, x.line⟩], bad := true, kind := 0, s := [], less := false }) := ⟨by rw [ew.out, (wrong_empty hbad hem)]⟩
                have S8 := Aside0.mk (S7.out.setBad true)
                have HB8 := Aside0.mk (HB7.out.setB 6 (.bool true))
                clear S7 HB7 ew
                revert S8 HB8
                generalize wr.setCell ⟨b, 6, none⟩ (.bool true) = w2
                intro S2 HB2
                have hs2 := HB2.out.size
                refine canon [(0,1),(1,1),(2,1),(3,1),(4,2),(5,2),(6,0),(7,3),(8,1),(9,1),(10,3)] [7,10] (fun W => XAt W b n1 base ({ x with bad := true } : TX) v ⟨#[]⟩ M) (by kernel_rfl) rfl rfl (by kernel_rfl) (by intro c d v a w h; cases d <;> exact h) ?_
                intro w3 hb3 _
                have S3 := Aside0.mk (S2.out.below hb3)
                have HB3 := Aside0.mk (HB2.out.trans (hb3.mono (show base ≤ w2.heap.size by omega)))
                have hs3 := HB3.out.size
                have hl3 := blk_lt S3.out.1
                clear hb3 HB2 S2
                repeat (first | (refine c_pure rfl rfl (by rfl) (v := ?_) ?_ (a' := ?_) ?_ ?_; rotate_left; (focus (intro w'; go_simp; with_reducible rfl)); rotate_left; (focus ((try simp only [Act.put, List.setIfInBounds_toArray, List.set_cons_zero, List.set_cons_succ, i64_w, i32_w]); rfl))) | (refine c_off rfl rfl (by rfl) (a' := ?_) ?_ ?_; rotate_left; (focus ((try simp only [Act.put, List.setIfInBounds_toArray, List.set_cons_zero, List.set_cons_succ, i64_w, i32_w]); rfl))))
                (refine c_cell rfl rfl (by rfl) (S3.out) 22 (.tmp 84) rfl (⟨b, 0, none⟩) rfl (v) (fun w' hS' => cell_of_row w' b 0 _ 45 (0, 0) hS'.1) Try.underlying22 rfl (a' := ?_) ?_ ?_; rotate_left; (focus ((try simp only [Act.put, List.setIfInBounds_toArray, List.set_cons_zero, List.set_cons_succ, i64_w, i32_w]); rfl)))
                (refine c_row rfl rfl (by rfl) S3.out 30 (.tmp 2) rfl n1 rfl 30 _ (0, 0) _ (fun w' hS' => hS'.2.1) Try.underlying30 rfl (by kernel_rfl) (a' := ?_) ?_ ?_; rotate_left; (focus ((try simp only [Act.put, List.setIfInBounds_toArray, List.set_cons_zero, List.set_cons_succ, i64_w, i32_w]); rfl)))
                refine c_eff rfl (fun K hK => ?_)
                go_simp
                refine hK _ _ (fun h => h.below (below_alloc (Below.refl _ _) _)) ?_
                clear hK K
                (refine c_norm (a' := ?_) ?_ ?_; rotate_left; (focus ((try simp only [Act.put, List.setIfInBounds_toArray, List.set_cons_zero, List.set_cons_succ, i64_w, i32_w]); rfl)))
                refine c_last rfl (fun K hK => ?_)
                refine Kd.R_append_step k31 (w0 := w3) base (by rfl) (.tmp 85) (.tmp 87) 22 30 (.agg #[(.int .i64 0), (.string ⟨#[]⟩), (.int .i64 0), (.int .i64 0)]) 40 rfl Try.underlying22 info30 rfl (by decide) (by omega) v x.l ⟨x.kind, ⟨#[]⟩, M, x.line⟩ [.int .i64 x.kind, .string ⟨#[]⟩, .int .i64 M, .int .i64 x.line] (fun k => k ≠ b) (fun _ => False) rfl rfl (k31_mkM _ _ _ ⟨x.kind, ⟨#[]⟩, M, x.line⟩) (fun _ hk => hk.elim) (fun k hk => by omega) (Kd.R_mono S3.out.2.2 (fun _ hk => hk.1)) (Below.refl base w3) (by omega) (by omega) ?_
                intro v1 w4 ho hb4 hg _
                obtain ⟨A1, n2, k1, rfl⟩ := slice_of_R ho
                refine hK _ _ ?_
                clear hK K
                have h4 := blk_grown S3.out.1 hg (fun h => (S3.out.2.2.1 b h.symm).1 rfl)
                have S4 := Aside0.mk (blk_put h4 0 (.slice A1 n2 k1) (cs' := (({ x with l := x.l ++ [⟨x.kind, ⟨#[]⟩, M, x.line⟩], bad := true } : TX)).cells (.slice A1 n2 k1)) rfl)
                have HR4 := Aside0.mk (Kd.R_far (p := ⟨b, 0, none⟩) ho (fun _ h => h) (.slice A1 n2 k1))
                have HB4 := Aside0.mk ((HB3.out.trans hb4).setB 0 (.slice A1 n2 k1))
                have f4 := blk_frozen h4 0
                have c4 := cell_of_row _ b 0 _ 45 (0, 0) h4
                clear ho hb4 hg h4 S3 HB3
                (refine c_norm (a' := ?_) ?_ ?_; rotate_left; (focus ((try simp only [Act.put, List.setIfInBounds_toArray, List.set_cons_zero, List.set_cons_succ, i64_w, i32_w]); rfl)))
                repeat (first | (refine c_pure rfl rfl (by rfl) (v := ?_) ?_ (a' := ?_) ?_ ?_; rotate_left; (focus (intro w'; go_simp; with_reducible rfl)); rotate_left; (focus ((try simp only [Act.put, List.setIfInBounds_toArray, List.set_cons_zero, List.set_cons_succ, i64_w, i32_w]); rfl))) | (refine c_off rfl rfl (by rfl) (a' := ?_) ?_ ?_; rotate_left; (focus ((try simp only [Act.put, List.setIfInBounds_toArray, List.set_cons_zero, List.set_cons_succ, i64_w, i32_w]); rfl))))
                refine c_last rfl (fun K hK => ?_)
                go_simp
                refine hK _ _ ?_
                clear hK K f4 c4
                (refine c_norm (a' := ?_) ?_ ?_; rotate_left; (focus ((try simp only [Act.put, List.setIfInBounds_toArray, List.set_cons_zero, List.set_cons_succ, i64_w, i32_w]); rfl)))
                refine c_done ?_
                obtain ⟨⟨_, _, c2, c3, c4, _, _⟩, _, _, f2, f3, f4, _, _⟩ := TxAt.reads (x := ({ x with l := x.l ++ [⟨x.kind, ⟨#[]⟩, M, x.line⟩], bad := true } : TX)) S4.out
                go_wp2
                go_end0
                rw [E.out]
                exact ⟨rfl, end_tail (x := ({ x with l := x.l ++ [⟨x.kind, ⟨#[]⟩, M, x.line⟩], bad := true } : TX)) S4.out HR4.out, below_three HB4.out _ _ _⟩
              · by_cases hlow : M < -2147483648
                · exact absurd hlow (by omega)
                · go_wp2
                  clear c0 c1 c2 c3 c4 c5 c6 f0 f1 f2 f3 f4 f5 f6 d0 d1 d2 d3 g1 g2
                  have E : Aside0 (endT x = { x with l := x.l ++ [⟨x.kind, ⟨#[]⟩, M, x.line⟩], bad := ((bs x.s).toList.isEmpty || decide (2147483647 < M)), kind := 0, s := [], less := false }) := ⟨by rw [ew.out, (wrong_rest hbad (Int.not_lt.mpr hlow))]⟩
                  have S8 := Aside0.mk (S7.out.setBad ((bs x.s).toList.isEmpty || decide (2147483647 < M)))
                  have HB8 := Aside0.mk (HB7.out.setB 6 (.bool ((bs x.s).toList.isEmpty || decide (2147483647 < M))))
                  clear S7 HB7 ew
                  revert S8 HB8
                  generalize wr.setCell ⟨b, 6, none⟩ (.bool ((bs x.s).toList.isEmpty || decide (2147483647 < M))) = w2
                  intro S2 HB2
                  have hs2 := HB2.out.size
                  refine canon [(0,1),(1,1),(2,1),(3,1),(4,2),(5,2),(6,0),(7,3),(8,1),(9,1),(10,3)] [7,10] (fun W => XAt W b n1 base ({ x with bad := ((bs x.s).toList.isEmpty || decide (2147483647 < M)) } : TX) v ⟨#[]⟩ M) (by kernel_rfl) rfl rfl (by kernel_rfl) (by intro c d v a w h; cases d <;> exact h) ?_
                  intro w3 hb3 _
                  have S3 := Aside0.mk (S2.out.below hb3)
                  have HB3 := Aside0.mk (HB2.out.trans (hb3.mono (show base ≤ w2.heap.size by omega)))
                  have hs3 := HB3.out.size
                  have hl3 := blk_lt S3.out.1
                  clear hb3 HB2 S2
                  repeat (first | (refine c_pure rfl rfl (by rfl) (v := ?_) ?_ (a' := ?_) ?_ ?_; rotate_left; (focus (intro w'; go_simp; with_reducible rfl)); rotate_left; (focus ((try simp only [Act.put, List.setIfInBounds_toArray, List.set_cons_zero, List.set_cons_succ, i64_w, i32_w]); rfl))) | (refine c_off rfl rfl (by rfl) (a' := ?_) ?_ ?_; rotate_left; (focus ((try simp only [Act.put, List.setIfInBounds_toArray, List.set_cons_zero, List.set_cons_succ, i64_w, i32_w]); rfl))))
                  (refine c_cell rfl rfl (by rfl) (S3.out) 22 (.tmp 84) rfl (⟨b, 0, none⟩) rfl (v) (fun w' hS' => cell_of_row w' b 0 _ 45 (0, 0) hS'.1) Try.underlying22 rfl (a' := ?_) ?_ ?_; rotate_left; (focus ((try simp only [Act.put, List.setIfInBounds_toArray, List.set_cons_zero, List.set_cons_succ, i64_w, i32_w]); rfl)))
                  (refine c_row rfl rfl (by rfl) S3.out 30 (.tmp 2) rfl n1 rfl 30 _ (0, 0) _ (fun w' hS' => hS'.2.1) Try.underlying30 rfl (by kernel_rfl) (a' := ?_) ?_ ?_; rotate_left; (focus ((try simp only [Act.put, List.setIfInBounds_toArray, List.set_cons_zero, List.set_cons_succ, i64_w, i32_w]); rfl)))
                  refine c_eff rfl (fun K hK => ?_)
                  go_simp
                  refine hK _ _ (fun h => h.below (below_alloc (Below.refl _ _) _)) ?_
                  clear hK K
                  (refine c_norm (a' := ?_) ?_ ?_; rotate_left; (focus ((try simp only [Act.put, List.setIfInBounds_toArray, List.set_cons_zero, List.set_cons_succ, i64_w, i32_w]); rfl)))
                  refine c_last rfl (fun K hK => ?_)
                  refine Kd.R_append_step k31 (w0 := w3) base (by rfl) (.tmp 85) (.tmp 87) 22 30 (.agg #[(.int .i64 0), (.string ⟨#[]⟩), (.int .i64 0), (.int .i64 0)]) 40 rfl Try.underlying22 info30 rfl (by decide) (by omega) v x.l ⟨x.kind, ⟨#[]⟩, M, x.line⟩ [.int .i64 x.kind, .string ⟨#[]⟩, .int .i64 M, .int .i64 x.line] (fun k => k ≠ b) (fun _ => False) rfl rfl (k31_mkM _ _ _ ⟨x.kind, ⟨#[]⟩, M, x.line⟩) (fun _ hk => hk.elim) (fun k hk => by omega) (Kd.R_mono S3.out.2.2 (fun _ hk => hk.1)) (Below.refl base w3) (by omega) (by omega) ?_
                  intro v1 w4 ho hb4 hg _
                  obtain ⟨A1, n2, k1, rfl⟩ := slice_of_R ho
                  refine hK _ _ ?_
                  clear hK K
                  have h4 := blk_grown S3.out.1 hg (fun h => (S3.out.2.2.1 b h.symm).1 rfl)
                  have S4 := Aside0.mk (blk_put h4 0 (.slice A1 n2 k1) (cs' := (({ x with l := x.l ++ [⟨x.kind, ⟨#[]⟩, M, x.line⟩], bad := ((bs x.s).toList.isEmpty || decide (2147483647 < M)) } : TX)).cells (.slice A1 n2 k1)) rfl)
                  have HR4 := Aside0.mk (Kd.R_far (p := ⟨b, 0, none⟩) ho (fun _ h => h) (.slice A1 n2 k1))
                  have HB4 := Aside0.mk ((HB3.out.trans hb4).setB 0 (.slice A1 n2 k1))
                  have f4 := blk_frozen h4 0
                  have c4 := cell_of_row _ b 0 _ 45 (0, 0) h4
                  clear ho hb4 hg h4 S3 HB3
                  (refine c_norm (a' := ?_) ?_ ?_; rotate_left; (focus ((try simp only [Act.put, List.setIfInBounds_toArray, List.set_cons_zero, List.set_cons_succ, i64_w, i32_w]); rfl)))
                  repeat (first | (refine c_pure rfl rfl (by rfl) (v := ?_) ?_ (a' := ?_) ?_ ?_; rotate_left; (focus (intro w'; go_simp; with_reducible rfl)); rotate_left; (focus ((try simp only [Act.put, List.setIfInBounds_toArray, List.set_cons_zero, List.set_cons_succ, i64_w, i32_w]); rfl))) | (refine c_off rfl rfl (by rfl) (a' := ?_) ?_ ?_; rotate_left; (focus ((try simp only [Act.put, List.setIfInBounds_toArray, List.set_cons_zero, List.set_cons_succ, i64_w, i32_w]); rfl))))
                  refine c_last rfl (fun K hK => ?_)
                  go_simp
                  refine hK _ _ ?_
                  clear hK K f4 c4
                  (refine c_norm (a' := ?_) ?_ ?_; rotate_left; (focus ((try simp only [Act.put, List.setIfInBounds_toArray, List.set_cons_zero, List.set_cons_succ, i64_w, i32_w]); rfl)))
                  refine c_done ?_
                  obtain ⟨⟨_, _, c2, c3, c4, _, _⟩, _, _, f2, f3, f4, _, _⟩ := TxAt.reads (x := ({ x with l := x.l ++ [⟨x.kind, ⟨#[]⟩, M, x.line⟩], bad := ((bs x.s).toList.isEmpty || decide (2147483647 < M)) } : TX)) S4.out
                  go_wp2
                  go_end0
                  rw [E.out]
                  exact ⟨rfl, end_tail (x := ({ x with l := x.l ++ [⟨x.kind, ⟨#[]⟩, M, x.line⟩], bad := ((bs x.s).toList.isEmpty || decide (2147483647 < M)) } : TX)) S4.out HR4.out, below_three HB4.out _ _ _⟩
            · rw [hbad] at c6
              go_wp2
              clear c0 c1 c2 c3 c4 c5 c6 f0 f1 f2 f3 f4 f5 f6 d0 d1 d2 d3 g1 g2
              have E : Aside0 (endT x = { x with l := x.l ++ [⟨x.kind, ⟨#[]⟩, M, x.line⟩], bad := true, kind := 0, s := [], less := false }) := ⟨by rw [ew.out, (wrong_bad hbad)]⟩
              have S8 := Aside0.mk (S7.out.setBad true)
              have HB8 := Aside0.mk (HB7.out.setB 6 (.bool true))
              clear S7 HB7 ew
              revert S8 HB8
              generalize wr.setCell ⟨b, 6, none⟩ (.bool true) = w2
              intro S2 HB2
              have hs2 := HB2.out.size
              refine canon [(0,1),(1,1),(2,1),(3,1),(4,2),(5,2),(6,0),(7,3),(8,1),(9,1),(10,3)] [7,10] (fun W => XAt W b n1 base ({ x with bad := true } : TX) v ⟨#[]⟩ M) (by kernel_rfl) rfl rfl (by kernel_rfl) (by intro c d v a w h; cases d <;> exact h) ?_
              intro w3 hb3 _
              have S3 := Aside0.mk (S2.out.below hb3)
              have HB3 := Aside0.mk (HB2.out.trans (hb3.mono (show base ≤ w2.heap.size by omega)))
              have hs3 := HB3.out.size
              have hl3 := blk_lt S3.out.1
              clear hb3 HB2 S2
              repeat (first | (refine c_pure rfl rfl (by rfl) (v := ?_) ?_ (a' := ?_) ?_ ?_; rotate_left; (focus (intro w'; go_simp; with_reducible rfl)); rotate_left; (focus ((try simp only [Act.put, List.setIfInBounds_toArray, List.set_cons_zero, List.set_cons_succ, i64_w, i32_w]); rfl))) | (refine c_off rfl rfl (by rfl) (a' := ?_) ?_ ?_; rotate_left; (focus ((try simp only [Act.put, List.setIfInBounds_toArray, List.set_cons_zero, List.set_cons_succ, i64_w, i32_w]); rfl))))
              (refine c_cell rfl rfl (by rfl) (S3.out) 22 (.tmp 84) rfl (⟨b, 0, none⟩) rfl (v) (fun w' hS' => cell_of_row w' b 0 _ 45 (0, 0) hS'.1) Try.underlying22 rfl (a' := ?_) ?_ ?_; rotate_left; (focus ((try simp only [Act.put, List.setIfInBounds_toArray, List.set_cons_zero, List.set_cons_succ, i64_w, i32_w]); rfl)))
              (refine c_row rfl rfl (by rfl) S3.out 30 (.tmp 2) rfl n1 rfl 30 _ (0, 0) _ (fun w' hS' => hS'.2.1) Try.underlying30 rfl (by kernel_rfl) (a' := ?_) ?_ ?_; rotate_left; (focus ((try simp only [Act.put, List.setIfInBounds_toArray, List.set_cons_zero, List.set_cons_succ, i64_w, i32_w]); rfl)))
              refine c_eff rfl (fun K hK => ?_)
              go_simp
              refine hK _ _ (fun h => h.below (below_alloc (Below.refl _ _) _)) ?_
              clear hK K
              (refine c_norm (a' := ?_) ?_ ?_; rotate_left; (focus ((try simp only [Act.put, List.setIfInBounds_toArray, List.set_cons_zero, List.set_cons_succ, i64_w, i32_w]); rfl)))
              refine c_last rfl (fun K hK => ?_)
              refine Kd.R_append_step k31 (w0 := w3) base (by rfl) (.tmp 85) (.tmp 87) 22 30 (.agg #[(.int .i64 0), (.string ⟨#[]⟩), (.int .i64 0), (.int .i64 0)]) 40 rfl Try.underlying22 info30 rfl (by decide) (by omega) v x.l ⟨x.kind, ⟨#[]⟩, M, x.line⟩ [.int .i64 x.kind, .string ⟨#[]⟩, .int .i64 M, .int .i64 x.line] (fun k => k ≠ b) (fun _ => False) rfl rfl (k31_mkM _ _ _ ⟨x.kind, ⟨#[]⟩, M, x.line⟩) (fun _ hk => hk.elim) (fun k hk => by omega) (Kd.R_mono S3.out.2.2 (fun _ hk => hk.1)) (Below.refl base w3) (by omega) (by omega) ?_
              intro v1 w4 ho hb4 hg _
              obtain ⟨A1, n2, k1, rfl⟩ := slice_of_R ho
              refine hK _ _ ?_
              clear hK K
              have h4 := blk_grown S3.out.1 hg (fun h => (S3.out.2.2.1 b h.symm).1 rfl)
              have S4 := Aside0.mk (blk_put h4 0 (.slice A1 n2 k1) (cs' := (({ x with l := x.l ++ [⟨x.kind, ⟨#[]⟩, M, x.line⟩], bad := true } : TX)).cells (.slice A1 n2 k1)) rfl)
              have HR4 := Aside0.mk (Kd.R_far (p := ⟨b, 0, none⟩) ho (fun _ h => h) (.slice A1 n2 k1))
              have HB4 := Aside0.mk ((HB3.out.trans hb4).setB 0 (.slice A1 n2 k1))
              have f4 := blk_frozen h4 0
              have c4 := cell_of_row _ b 0 _ 45 (0, 0) h4
              clear ho hb4 hg h4 S3 HB3
              (refine c_norm (a' := ?_) ?_ ?_; rotate_left; (focus ((try simp only [Act.put, List.setIfInBounds_toArray, List.set_cons_zero, List.set_cons_succ, i64_w, i32_w]); rfl)))
              repeat (first | (refine c_pure rfl rfl (by rfl) (v := ?_) ?_ (a' := ?_) ?_ ?_; rotate_left; (focus (intro w'; go_simp; with_reducible rfl)); rotate_left; (focus ((try simp only [Act.put, List.setIfInBounds_toArray, List.set_cons_zero, List.set_cons_succ, i64_w, i32_w]); rfl))) | (refine c_off rfl rfl (by rfl) (a' := ?_) ?_ ?_; rotate_left; (focus ((try simp only [Act.put, List.setIfInBounds_toArray, List.set_cons_zero, List.set_cons_succ, i64_w, i32_w]); rfl))))
              refine c_last rfl (fun K hK => ?_)
              go_simp
              refine hK _ _ ?_
              clear hK K f4 c4
              (refine c_norm (a' := ?_) ?_ ?_; rotate_left; (focus ((try simp only [Act.put, List.setIfInBounds_toArray, List.set_cons_zero, List.set_cons_succ, i64_w, i32_w]); rfl)))
              refine c_done ?_
              obtain ⟨⟨_, _, c2, c3, c4, _, _⟩, _, _, f2, f3, f4, _, _⟩ := TxAt.reads (x := ({ x with l := x.l ++ [⟨x.kind, ⟨#[]⟩, M, x.line⟩], bad := true } : TX)) S4.out
              go_wp2
              go_end0
              rw [E.out]
              exact ⟨rfl, end_tail (x := ({ x with l := x.l ++ [⟨x.kind, ⟨#[]⟩, M, x.line⟩], bad := true } : TX)) S4.out HR4.out, below_three HB4.out _ _ _⟩
          · rw [hless] at c4
            rw [show signed x.less M = -M by rw [hless]; rfl] at ew
            have hwm : wrap64 (-M) = -M := wrap64_id _ (by omega)
            have S7 := Aside0.mk (S.out.setN (-M))
            have HB7 := Aside0.mk (HB.out.setCell (show base ≤ (⟨n1, 2, none⟩ : Addr).block from hn1) (.int .i64 (-M)))
            rcases hbad : x.bad
            · rw [hbad] at c6
              by_cases hem : (bs x.s).toList = []
              · go_wp2
                clear c0 c1 c2 c3 c4 c5 c6 f0 f1 f2 f3 f4 f5 f6 d0 d1 d2 d3 g1 g2
                have E : Aside0 (endT x = { x with l := x.l ++ [⟨x.kind, ⟨#[]⟩, (-M), x.line⟩], bad := true, kind := 0, s := [], less := false }) := ⟨by rw [ew.out, (wrong_empty hbad hem)]⟩
                have S8 := Aside0.mk (S7.out.setBad true)
                have HB8 := Aside0.mk (HB7.out.setB 6 (.bool true))
                clear S7 HB7 ew
                revert S8 HB8
                generalize (wr.setCell ⟨n1, 2, none⟩ (.int .i64 (-M))).setCell ⟨b, 6, none⟩ (.bool true) = w2
                intro S2 HB2
                have hs2 := HB2.out.size
                refine canon [(0,1),(1,1),(2,1),(3,1),(4,2),(5,2),(6,0),(7,3),(8,1),(9,1),(10,3)] [7,10] (fun W => XAt W b n1 base ({ x with bad := true } : TX) v ⟨#[]⟩ (-M)) (by kernel_rfl) rfl rfl (by kernel_rfl) (by intro c d v a w h; cases d <;> exact h) ?_
                intro w3 hb3 _
                have S3 := Aside0.mk (S2.out.below hb3)
                have HB3 := Aside0.mk (HB2.out.trans (hb3.mono (show base ≤ w2.heap.size by omega)))
                have hs3 := HB3.out.size
                have hl3 := blk_lt S3.out.1
                clear hb3 HB2 S2
                repeat (first | (refine c_pure rfl rfl (by rfl) (v := ?_) ?_ (a' := ?_) ?_ ?_; rotate_left; (focus (intro w'; go_simp; with_reducible rfl)); rotate_left; (focus ((try simp only [Act.put, List.setIfInBounds_toArray, List.set_cons_zero, List.set_cons_succ, i64_w, i32_w]); rfl))) | (refine c_off rfl rfl (by rfl) (a' := ?_) ?_ ?_; rotate_left; (focus ((try simp only [Act.put, List.setIfInBounds_toArray, List.set_cons_zero, List.set_cons_succ, i64_w, i32_w]); rfl))))
                (refine c_cell rfl rfl (by rfl) (S3.out) 22 (.tmp 84) rfl (⟨b, 0, none⟩) rfl (v) (fun w' hS' => cell_of_row w' b 0 _ 45 (0, 0) hS'.1) Try.underlying22 rfl (a' := ?_) ?_ ?_; rotate_left; (focus ((try simp only [Act.put, List.setIfInBounds_toArray, List.set_cons_zero, List.set_cons_succ, i64_w, i32_w]); rfl)))
                (refine c_row rfl rfl (by rfl) S3.out 30 (.tmp 2) rfl n1 rfl 30 _ (0, 0) _ (fun w' hS' => hS'.2.1) Try.underlying30 rfl (by kernel_rfl) (a' := ?_) ?_ ?_; rotate_left; (focus ((try simp only [Act.put, List.setIfInBounds_toArray, List.set_cons_zero, List.set_cons_succ, i64_w, i32_w]); rfl)))
                refine c_eff rfl (fun K hK => ?_)
                go_simp
                refine hK _ _ (fun h => h.below (below_alloc (Below.refl _ _) _)) ?_
                clear hK K
                (refine c_norm (a' := ?_) ?_ ?_; rotate_left; (focus ((try simp only [Act.put, List.setIfInBounds_toArray, List.set_cons_zero, List.set_cons_succ, i64_w, i32_w]); rfl)))
                refine c_last rfl (fun K hK => ?_)
                refine Kd.R_append_step k31 (w0 := w3) base (by rfl) (.tmp 85) (.tmp 87) 22 30 (.agg #[(.int .i64 0), (.string ⟨#[]⟩), (.int .i64 0), (.int .i64 0)]) 40 rfl Try.underlying22 info30 rfl (by decide) (by omega) v x.l ⟨x.kind, ⟨#[]⟩, (-M), x.line⟩ [.int .i64 x.kind, .string ⟨#[]⟩, .int .i64 (-M), .int .i64 x.line] (fun k => k ≠ b) (fun _ => False) rfl rfl (k31_mkM _ _ _ ⟨x.kind, ⟨#[]⟩, (-M), x.line⟩) (fun _ hk => hk.elim) (fun k hk => by omega) (Kd.R_mono S3.out.2.2 (fun _ hk => hk.1)) (Below.refl base w3) (by omega) (by omega) ?_
                intro v1 w4 ho hb4 hg _
                obtain ⟨A1, n2, k1, rfl⟩ := slice_of_R ho
                refine hK _ _ ?_
                clear hK K
                have h4 := blk_grown S3.out.1 hg (fun h => (S3.out.2.2.1 b h.symm).1 rfl)
                have S4 := Aside0.mk (blk_put h4 0 (.slice A1 n2 k1) (cs' := (({ x with l := x.l ++ [⟨x.kind, ⟨#[]⟩, (-M), x.line⟩], bad := true } : TX)).cells (.slice A1 n2 k1)) rfl)
                have HR4 := Aside0.mk (Kd.R_far (p := ⟨b, 0, none⟩) ho (fun _ h => h) (.slice A1 n2 k1))
                have HB4 := Aside0.mk ((HB3.out.trans hb4).setB 0 (.slice A1 n2 k1))
                have f4 := blk_frozen h4 0
                have c4 := cell_of_row _ b 0 _ 45 (0, 0) h4
                clear ho hb4 hg h4 S3 HB3
                (refine c_norm (a' := ?_) ?_ ?_; rotate_left; (focus ((try simp only [Act.put, List.setIfInBounds_toArray, List.set_cons_zero, List.set_cons_succ, i64_w, i32_w]); rfl)))
                repeat (first | (refine c_pure rfl rfl (by rfl) (v := ?_) ?_ (a' := ?_) ?_ ?_; rotate_left; (focus (intro w'; go_simp; with_reducible rfl)); rotate_left; (focus ((try simp only [Act.put, List.setIfInBounds_toArray, List.set_cons_zero, List.set_cons_succ, i64_w, i32_w]); rfl))) | (refine c_off rfl rfl (by rfl) (a' := ?_) ?_ ?_; rotate_left; (focus ((try simp only [Act.put, List.setIfInBounds_toArray, List.set_cons_zero, List.set_cons_succ, i64_w, i32_w]); rfl))))
                refine c_last rfl (fun K hK => ?_)
                go_simp
                refine hK _ _ ?_
                clear hK K f4 c4
                (refine c_norm (a' := ?_) ?_ ?_; rotate_left; (focus ((try simp only [Act.put, List.setIfInBounds_toArray, List.set_cons_zero, List.set_cons_succ, i64_w, i32_w]); rfl)))
                refine c_done ?_
                obtain ⟨⟨_, _, c2, c3, c4, _, _⟩, _, _, f2, f3, f4, _, _⟩ := TxAt.reads (x := ({ x with l := x.l ++ [⟨x.kind, ⟨#[]⟩, (-M), x.line⟩], bad := true } : TX)) S4.out
                go_wp2
                go_end0
                rw [E.out]
                exact ⟨rfl, end_tail (x := ({ x with l := x.l ++ [⟨x.kind, ⟨#[]⟩, (-M), x.line⟩], bad := true } : TX)) S4.out HR4.out, below_three HB4.out _ _ _⟩
              · by_cases hlow : (-M) < -2147483648
                · go_wp2
                  clear c0 c1 c2 c3 c4 c5 c6 f0 f1 f2 f3 f4 f5 f6 d0 d1 d2 d3 g1 g2
                  have E : Aside0 (endT x = { x with l := x.l ++ [⟨x.kind, ⟨#[]⟩, (-M), x.line⟩], bad := true, kind := 0, s := [], less := false }) := ⟨by rw [ew.out, (wrong_low hbad hlow)]⟩
                  have S8 := Aside0.mk (S7.out.setBad true)
                  have HB8 := Aside0.mk (HB7.out.setB 6 (.bool true))
                  clear S7 HB7 ew
                  revert S8 HB8
                  generalize (wr.setCell ⟨n1, 2, none⟩ (.int .i64 (-M))).setCell ⟨b, 6, none⟩ (.bool true) = w2
                  intro S2 HB2
                  have hs2 := HB2.out.size
                  refine canon [(0,1),(1,1),(2,1),(3,1),(4,2),(5,2),(6,0),(7,3),(8,1),(9,1),(10,3)] [7,10] (fun W => XAt W b n1 base ({ x with bad := true } : TX) v ⟨#[]⟩ (-M)) (by kernel_rfl) rfl rfl (by kernel_rfl) (by intro c d v a w h; cases d <;> exact h) ?_
                  intro w3 hb3 _
                  have S3 := Aside0.mk (S2.out.below hb3)
                  have HB3 := Aside0.mk (HB2.out.trans (hb3.mono (show base ≤ w2.heap.size by omega)))
                  have hs3 := HB3.out.size
                  have hl3 := blk_lt S3.out.1
                  clear hb3 HB2 S2
                  repeat (first | (refine c_pure rfl rfl (by rfl) (v := ?_) ?_ (a' := ?_) ?_ ?_; rotate_left; (focus (intro w'; go_simp; with_reducible rfl)); rotate_left; (focus ((try simp only [Act.put, List.setIfInBounds_toArray, List.set_cons_zero, List.set_cons_succ, i64_w, i32_w]); rfl))) | (refine c_off rfl rfl (by rfl) (a' := ?_) ?_ ?_; rotate_left; (focus ((try simp only [Act.put, List.setIfInBounds_toArray, List.set_cons_zero, List.set_cons_succ, i64_w, i32_w]); rfl))))
                  (refine c_cell rfl rfl (by rfl) (S3.out) 22 (.tmp 84) rfl (⟨b, 0, none⟩) rfl (v) (fun w' hS' => cell_of_row w' b 0 _ 45 (0, 0) hS'.1) Try.underlying22 rfl (a' := ?_) ?_ ?_; rotate_left; (focus ((try simp only [Act.put, List.setIfInBounds_toArray, List.set_cons_zero, List.set_cons_succ, i64_w, i32_w]); rfl)))
                  (refine c_row rfl rfl (by rfl) S3.out 30 (.tmp 2) rfl n1 rfl 30 _ (0, 0) _ (fun w' hS' => hS'.2.1) Try.underlying30 rfl (by kernel_rfl) (a' := ?_) ?_ ?_; rotate_left; (focus ((try simp only [Act.put, List.setIfInBounds_toArray, List.set_cons_zero, List.set_cons_succ, i64_w, i32_w]); rfl)))
                  refine c_eff rfl (fun K hK => ?_)
                  go_simp
                  refine hK _ _ (fun h => h.below (below_alloc (Below.refl _ _) _)) ?_
                  clear hK K
                  (refine c_norm (a' := ?_) ?_ ?_; rotate_left; (focus ((try simp only [Act.put, List.setIfInBounds_toArray, List.set_cons_zero, List.set_cons_succ, i64_w, i32_w]); rfl)))
                  refine c_last rfl (fun K hK => ?_)
                  refine Kd.R_append_step k31 (w0 := w3) base (by rfl) (.tmp 85) (.tmp 87) 22 30 (.agg #[(.int .i64 0), (.string ⟨#[]⟩), (.int .i64 0), (.int .i64 0)]) 40 rfl Try.underlying22 info30 rfl (by decide) (by omega) v x.l ⟨x.kind, ⟨#[]⟩, (-M), x.line⟩ [.int .i64 x.kind, .string ⟨#[]⟩, .int .i64 (-M), .int .i64 x.line] (fun k => k ≠ b) (fun _ => False) rfl rfl (k31_mkM _ _ _ ⟨x.kind, ⟨#[]⟩, (-M), x.line⟩) (fun _ hk => hk.elim) (fun k hk => by omega) (Kd.R_mono S3.out.2.2 (fun _ hk => hk.1)) (Below.refl base w3) (by omega) (by omega) ?_
                  intro v1 w4 ho hb4 hg _
                  obtain ⟨A1, n2, k1, rfl⟩ := slice_of_R ho
                  refine hK _ _ ?_
                  clear hK K
                  have h4 := blk_grown S3.out.1 hg (fun h => (S3.out.2.2.1 b h.symm).1 rfl)
                  have S4 := Aside0.mk (blk_put h4 0 (.slice A1 n2 k1) (cs' := (({ x with l := x.l ++ [⟨x.kind, ⟨#[]⟩, (-M), x.line⟩], bad := true } : TX)).cells (.slice A1 n2 k1)) rfl)
                  have HR4 := Aside0.mk (Kd.R_far (p := ⟨b, 0, none⟩) ho (fun _ h => h) (.slice A1 n2 k1))
                  have HB4 := Aside0.mk ((HB3.out.trans hb4).setB 0 (.slice A1 n2 k1))
                  have f4 := blk_frozen h4 0
                  have c4 := cell_of_row _ b 0 _ 45 (0, 0) h4
                  clear ho hb4 hg h4 S3 HB3
                  (refine c_norm (a' := ?_) ?_ ?_; rotate_left; (focus ((try simp only [Act.put, List.setIfInBounds_toArray, List.set_cons_zero, List.set_cons_succ, i64_w, i32_w]); rfl)))
                  repeat (first | (refine c_pure rfl rfl (by rfl) (v := ?_) ?_ (a' := ?_) ?_ ?_; rotate_left; (focus (intro w'; go_simp; with_reducible rfl)); rotate_left; (focus ((try simp only [Act.put, List.setIfInBounds_toArray, List.set_cons_zero, List.set_cons_succ, i64_w, i32_w]); rfl))) | (refine c_off rfl rfl (by rfl) (a' := ?_) ?_ ?_; rotate_left; (focus ((try simp only [Act.put, List.setIfInBounds_toArray, List.set_cons_zero, List.set_cons_succ, i64_w, i32_w]); rfl))))
                  refine c_last rfl (fun K hK => ?_)
                  go_simp
                  refine hK _ _ ?_
                  clear hK K f4 c4
                  (refine c_norm (a' := ?_) ?_ ?_; rotate_left; (focus ((try simp only [Act.put, List.setIfInBounds_toArray, List.set_cons_zero, List.set_cons_succ, i64_w, i32_w]); rfl)))
                  refine c_done ?_
                  obtain ⟨⟨_, _, c2, c3, c4, _, _⟩, _, _, f2, f3, f4, _, _⟩ := TxAt.reads (x := ({ x with l := x.l ++ [⟨x.kind, ⟨#[]⟩, (-M), x.line⟩], bad := true } : TX)) S4.out
                  go_wp2
                  go_end0
                  rw [E.out]
                  exact ⟨rfl, end_tail (x := ({ x with l := x.l ++ [⟨x.kind, ⟨#[]⟩, (-M), x.line⟩], bad := true } : TX)) S4.out HR4.out, below_three HB4.out _ _ _⟩
                · go_wp2
                  clear c0 c1 c2 c3 c4 c5 c6 f0 f1 f2 f3 f4 f5 f6 d0 d1 d2 d3 g1 g2
                  have E : Aside0 (endT x = { x with l := x.l ++ [⟨x.kind, ⟨#[]⟩, (-M), x.line⟩], bad := ((bs x.s).toList.isEmpty || decide (2147483647 < (-M))), kind := 0, s := [], less := false }) := ⟨by rw [ew.out, (wrong_rest hbad (Int.not_lt.mpr hlow))]⟩
                  have S8 := Aside0.mk (S7.out.setBad ((bs x.s).toList.isEmpty || decide (2147483647 < (-M))))
                  have HB8 := Aside0.mk (HB7.out.setB 6 (.bool ((bs x.s).toList.isEmpty || decide (2147483647 < (-M)))))
                  clear S7 HB7 ew
                  revert S8 HB8
                  generalize (wr.setCell ⟨n1, 2, none⟩ (.int .i64 (-M))).setCell ⟨b, 6, none⟩ (.bool ((bs x.s).toList.isEmpty || decide (2147483647 < (-M)))) = w2
                  intro S2 HB2
                  have hs2 := HB2.out.size
                  refine canon [(0,1),(1,1),(2,1),(3,1),(4,2),(5,2),(6,0),(7,3),(8,1),(9,1),(10,3)] [7,10] (fun W => XAt W b n1 base ({ x with bad := ((bs x.s).toList.isEmpty || decide (2147483647 < (-M))) } : TX) v ⟨#[]⟩ (-M)) (by kernel_rfl) rfl rfl (by kernel_rfl) (by intro c d v a w h; cases d <;> exact h) ?_
                  intro w3 hb3 _
                  have S3 := Aside0.mk (S2.out.below hb3)
                  have HB3 := Aside0.mk (HB2.out.trans (hb3.mono (show base ≤ w2.heap.size by omega)))
                  have hs3 := HB3.out.size
                  have hl3 := blk_lt S3.out.1
                  clear hb3 HB2 S2
                  repeat (first | (refine c_pure rfl rfl (by rfl) (v := ?_) ?_ (a' := ?_) ?_ ?_; rotate_left; (focus (intro w'; go_simp; with_reducible rfl)); rotate_left; (focus ((try simp only [Act.put, List.setIfInBounds_toArray, List.set_cons_zero, List.set_cons_succ, i64_w, i32_w]); rfl))) | (refine c_off rfl rfl (by rfl) (a' := ?_) ?_ ?_; rotate_left; (focus ((try simp only [Act.put, List.setIfInBounds_toArray, List.set_cons_zero, List.set_cons_succ, i64_w, i32_w]); rfl))))
                  (refine c_cell rfl rfl (by rfl) (S3.out) 22 (.tmp 84) rfl (⟨b, 0, none⟩) rfl (v) (fun w' hS' => cell_of_row w' b 0 _ 45 (0, 0) hS'.1) Try.underlying22 rfl (a' := ?_) ?_ ?_; rotate_left; (focus ((try simp only [Act.put, List.setIfInBounds_toArray, List.set_cons_zero, List.set_cons_succ, i64_w, i32_w]); rfl)))
                  (refine c_row rfl rfl (by rfl) S3.out 30 (.tmp 2) rfl n1 rfl 30 _ (0, 0) _ (fun w' hS' => hS'.2.1) Try.underlying30 rfl (by kernel_rfl) (a' := ?_) ?_ ?_; rotate_left; (focus ((try simp only [Act.put, List.setIfInBounds_toArray, List.set_cons_zero, List.set_cons_succ, i64_w, i32_w]); rfl)))
                  refine c_eff rfl (fun K hK => ?_)
                  go_simp
                  refine hK _ _ (fun h => h.below (below_alloc (Below.refl _ _) _)) ?_
                  clear hK K
                  (refine c_norm (a' := ?_) ?_ ?_; rotate_left; (focus ((try simp only [Act.put, List.setIfInBounds_toArray, List.set_cons_zero, List.set_cons_succ, i64_w, i32_w]); rfl)))
                  refine c_last rfl (fun K hK => ?_)
                  refine Kd.R_append_step k31 (w0 := w3) base (by rfl) (.tmp 85) (.tmp 87) 22 30 (.agg #[(.int .i64 0), (.string ⟨#[]⟩), (.int .i64 0), (.int .i64 0)]) 40 rfl Try.underlying22 info30 rfl (by decide) (by omega) v x.l ⟨x.kind, ⟨#[]⟩, (-M), x.line⟩ [.int .i64 x.kind, .string ⟨#[]⟩, .int .i64 (-M), .int .i64 x.line] (fun k => k ≠ b) (fun _ => False) rfl rfl (k31_mkM _ _ _ ⟨x.kind, ⟨#[]⟩, (-M), x.line⟩) (fun _ hk => hk.elim) (fun k hk => by omega) (Kd.R_mono S3.out.2.2 (fun _ hk => hk.1)) (Below.refl base w3) (by omega) (by omega) ?_
                  intro v1 w4 ho hb4 hg _
                  obtain ⟨A1, n2, k1, rfl⟩ := slice_of_R ho
                  refine hK _ _ ?_
                  clear hK K
                  have h4 := blk_grown S3.out.1 hg (fun h => (S3.out.2.2.1 b h.symm).1 rfl)
                  have S4 := Aside0.mk (blk_put h4 0 (.slice A1 n2 k1) (cs' := (({ x with l := x.l ++ [⟨x.kind, ⟨#[]⟩, (-M), x.line⟩], bad := ((bs x.s).toList.isEmpty || decide (2147483647 < (-M))) } : TX)).cells (.slice A1 n2 k1)) rfl)
                  have HR4 := Aside0.mk (Kd.R_far (p := ⟨b, 0, none⟩) ho (fun _ h => h) (.slice A1 n2 k1))
                  have HB4 := Aside0.mk ((HB3.out.trans hb4).setB 0 (.slice A1 n2 k1))
                  have f4 := blk_frozen h4 0
                  have c4 := cell_of_row _ b 0 _ 45 (0, 0) h4
                  clear ho hb4 hg h4 S3 HB3
                  (refine c_norm (a' := ?_) ?_ ?_; rotate_left; (focus ((try simp only [Act.put, List.setIfInBounds_toArray, List.set_cons_zero, List.set_cons_succ, i64_w, i32_w]); rfl)))
                  repeat (first | (refine c_pure rfl rfl (by rfl) (v := ?_) ?_ (a' := ?_) ?_ ?_; rotate_left; (focus (intro w'; go_simp; with_reducible rfl)); rotate_left; (focus ((try simp only [Act.put, List.setIfInBounds_toArray, List.set_cons_zero, List.set_cons_succ, i64_w, i32_w]); rfl))) | (refine c_off rfl rfl (by rfl) (a' := ?_) ?_ ?_; rotate_left; (focus ((try simp only [Act.put, List.setIfInBounds_toArray, List.set_cons_zero, List.set_cons_succ, i64_w, i32_w]); rfl))))
                  refine c_last rfl (fun K hK => ?_)
                  go_simp
                  refine hK _ _ ?_
                  clear hK K f4 c4
                  (refine c_norm (a' := ?_) ?_ ?_; rotate_left; (focus ((try simp only [Act.put, List.setIfInBounds_toArray, List.set_cons_zero, List.set_cons_succ, i64_w, i32_w]); rfl)))
                  refine c_done ?_
                  obtain ⟨⟨_, _, c2, c3, c4, _, _⟩, _, _, f2, f3, f4, _, _⟩ := TxAt.reads (x := ({ x with l := x.l ++ [⟨x.kind, ⟨#[]⟩, (-M), x.line⟩], bad := ((bs x.s).toList.isEmpty || decide (2147483647 < (-M))) } : TX)) S4.out
                  go_wp2
                  go_end0
                  rw [E.out]
                  exact ⟨rfl, end_tail (x := ({ x with l := x.l ++ [⟨x.kind, ⟨#[]⟩, (-M), x.line⟩], bad := ((bs x.s).toList.isEmpty || decide (2147483647 < (-M))) } : TX)) S4.out HR4.out, below_three HB4.out _ _ _⟩
            · rw [hbad] at c6
              go_wp2
              clear c0 c1 c2 c3 c4 c5 c6 f0 f1 f2 f3 f4 f5 f6 d0 d1 d2 d3 g1 g2
              have E : Aside0 (endT x = { x with l := x.l ++ [⟨x.kind, ⟨#[]⟩, (-M), x.line⟩], bad := true, kind := 0, s := [], less := false }) := ⟨by rw [ew.out, (wrong_bad hbad)]⟩
              have S8 := Aside0.mk (S7.out.setBad true)
              have HB8 := Aside0.mk (HB7.out.setB 6 (.bool true))
              clear S7 HB7 ew
              revert S8 HB8
              generalize (wr.setCell ⟨n1, 2, none⟩ (.int .i64 (-M))).setCell ⟨b, 6, none⟩ (.bool true) = w2
              intro S2 HB2
              have hs2 := HB2.out.size
              refine canon [(0,1),(1,1),(2,1),(3,1),(4,2),(5,2),(6,0),(7,3),(8,1),(9,1),(10,3)] [7,10] (fun W => XAt W b n1 base ({ x with bad := true } : TX) v ⟨#[]⟩ (-M)) (by kernel_rfl) rfl rfl (by kernel_rfl) (by intro c d v a w h; cases d <;> exact h) ?_
              intro w3 hb3 _
              have S3 := Aside0.mk (S2.out.below hb3)
              have HB3 := Aside0.mk (HB2.out.trans (hb3.mono (show base ≤ w2.heap.size by omega)))
              have hs3 := HB3.out.size
              have hl3 := blk_lt S3.out.1
              clear hb3 HB2 S2
              repeat (first | (refine c_pure rfl rfl (by rfl) (v := ?_) ?_ (a' := ?_) ?_ ?_; rotate_left; (focus (intro w'; go_simp; with_reducible rfl)); rotate_left; (focus ((try simp only [Act.put, List.setIfInBounds_toArray, List.set_cons_zero, List.set_cons_succ, i64_w, i32_w]); rfl))) | (refine c_off rfl rfl (by rfl) (a' := ?_) ?_ ?_; rotate_left; (focus ((try simp only [Act.put, List.setIfInBounds_toArray, List.set_cons_zero, List.set_cons_succ, i64_w, i32_w]); rfl))))
              (refine c_cell rfl rfl (by rfl) (S3.out) 22 (.tmp 84) rfl (⟨b, 0, none⟩) rfl (v) (fun w' hS' => cell_of_row w' b 0 _ 45 (0, 0) hS'.1) Try.underlying22 rfl (a' := ?_) ?_ ?_; rotate_left; (focus ((try simp only [Act.put, List.setIfInBounds_toArray, List.set_cons_zero, List.set_cons_succ, i64_w, i32_w]); rfl)))
              (refine c_row rfl rfl (by rfl) S3.out 30 (.tmp 2) rfl n1 rfl 30 _ (0, 0) _ (fun w' hS' => hS'.2.1) Try.underlying30 rfl (by kernel_rfl) (a' := ?_) ?_ ?_; rotate_left; (focus ((try simp only [Act.put, List.setIfInBounds_toArray, List.set_cons_zero, List.set_cons_succ, i64_w, i32_w]); rfl)))
              refine c_eff rfl (fun K hK => ?_)
              go_simp
              refine hK _ _ (fun h => h.below (below_alloc (Below.refl _ _) _)) ?_
              clear hK K
              (refine c_norm (a' := ?_) ?_ ?_; rotate_left; (focus ((try simp only [Act.put, List.setIfInBounds_toArray, List.set_cons_zero, List.set_cons_succ, i64_w, i32_w]); rfl)))
              refine c_last rfl (fun K hK => ?_)
              refine Kd.R_append_step k31 (w0 := w3) base (by rfl) (.tmp 85) (.tmp 87) 22 30 (.agg #[(.int .i64 0), (.string ⟨#[]⟩), (.int .i64 0), (.int .i64 0)]) 40 rfl Try.underlying22 info30 rfl (by decide) (by omega) v x.l ⟨x.kind, ⟨#[]⟩, (-M), x.line⟩ [.int .i64 x.kind, .string ⟨#[]⟩, .int .i64 (-M), .int .i64 x.line] (fun k => k ≠ b) (fun _ => False) rfl rfl (k31_mkM _ _ _ ⟨x.kind, ⟨#[]⟩, (-M), x.line⟩) (fun _ hk => hk.elim) (fun k hk => by omega) (Kd.R_mono S3.out.2.2 (fun _ hk => hk.1)) (Below.refl base w3) (by omega) (by omega) ?_
              intro v1 w4 ho hb4 hg _
              obtain ⟨A1, n2, k1, rfl⟩ := slice_of_R ho
              refine hK _ _ ?_
              clear hK K
              have h4 := blk_grown S3.out.1 hg (fun h => (S3.out.2.2.1 b h.symm).1 rfl)
              have S4 := Aside0.mk (blk_put h4 0 (.slice A1 n2 k1) (cs' := (({ x with l := x.l ++ [⟨x.kind, ⟨#[]⟩, (-M), x.line⟩], bad := true } : TX)).cells (.slice A1 n2 k1)) rfl)
              have HR4 := Aside0.mk (Kd.R_far (p := ⟨b, 0, none⟩) ho (fun _ h => h) (.slice A1 n2 k1))
              have HB4 := Aside0.mk ((HB3.out.trans hb4).setB 0 (.slice A1 n2 k1))
              have f4 := blk_frozen h4 0
              have c4 := cell_of_row _ b 0 _ 45 (0, 0) h4
              clear ho hb4 hg h4 S3 HB3
              (refine c_norm (a' := ?_) ?_ ?_; rotate_left; (focus ((try simp only [Act.put, List.setIfInBounds_toArray, List.set_cons_zero, List.set_cons_succ, i64_w, i32_w]); rfl)))
              repeat (first | (refine c_pure rfl rfl (by rfl) (v := ?_) ?_ (a' := ?_) ?_ ?_; rotate_left; (focus (intro w'; go_simp; with_reducible rfl)); rotate_left; (focus ((try simp only [Act.put, List.setIfInBounds_toArray, List.set_cons_zero, List.set_cons_succ, i64_w, i32_w]); rfl))) | (refine c_off rfl rfl (by rfl) (a' := ?_) ?_ ?_; rotate_left; (focus ((try simp only [Act.put, List.setIfInBounds_toArray, List.set_cons_zero, List.set_cons_succ, i64_w, i32_w]); rfl))))
              refine c_last rfl (fun K hK => ?_)
              go_simp
              refine hK _ _ ?_
              clear hK K f4 c4
              (refine c_norm (a' := ?_) ?_ ?_; rotate_left; (focus ((try simp only [Act.put, List.setIfInBounds_toArray, List.set_cons_zero, List.set_cons_succ, i64_w, i32_w]); rfl)))
              refine c_done ?_
              obtain ⟨⟨_, _, c2, c3, c4, _, _⟩, _, _, f2, f3, f4, _, _⟩ := TxAt.reads (x := ({ x with l := x.l ++ [⟨x.kind, ⟨#[]⟩, (-M), x.line⟩], bad := true } : TX)) S4.out
              go_wp2
              go_end0
              rw [E.out]
              exact ⟨rfl, end_tail (x := ({ x with l := x.l ++ [⟨x.kind, ⟨#[]⟩, (-M), x.line⟩], bad := true } : TX)) S4.out HR4.out, below_three HB4.out _ _ _⟩
    · have t1 : (x.kind == 1) = false := beq_eq_false_iff_ne.mpr h1
      have t2 : (x.kind == 2) = false := beq_eq_false_iff_ne.mpr h2
      have e : endT x = x := by rw [endT, if_neg h1, if_neg h2]
      have E := Aside0.mk e
      clear h1 h2 e
      go_wp2
      refine bodyPost_ret (results_none rfl _ _ _) rfl ?_
      rw [E.out]
      exact ⟨rfl, ⟨v, S2.out.1, Kd.R_mono S2.out.2.2 (fun _ hk => hk.1)⟩, HB2.out⟩
end Go.Proofs.Ythnmaaoafogbiaa.Lex
