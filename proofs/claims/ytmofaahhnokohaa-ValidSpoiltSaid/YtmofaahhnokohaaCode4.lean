/- Walk: code.Put. -/
import Derived.Test.YtmofaahhnokohaaCode3
import Derived.Test.YtmofaahhnokohaaCanonE
import Derived.Lib.SlBytesConst
import Derived.ArgAppend
namespace Go.Proofs.Ytmofaahhnokohaa.Code
set_option linter.unusedSimpArgs false
set_option linter.unusedVariables false
open Go.RowKit Go.Proofs.YtmofaahhnokohaaW.PrintWords Go.Proofs.YtmofaahhnokohaaW.PrintLast Go.Proofs.YtmofaahhnokohaaW.PrintMore PCodeAll Go.Proofs.YtmofaahhnokohaaW.CanonE
attribute [local go_sem] max2_mx min2_mn max_two min_two max_three min_three max_four min_four

def insB (x : S26) : List Int := [x.f0 % 256, x.f1 % 256] ++ (if x.f0 = 1 then bigB x.f2 4 else [x.f2 % 256, x.f3 % 256])
def funB (f : List S26) : List Int := ((f.length : Int) % 256) :: f.flatMap insB
def hdr (p : PG) : List Int := [77, 71, 80, p.fu % 256, p.de % 256] ++ bigB p.fl 2 ++ [(p.fs.length : Int) % 256]
def putB (p : PG) : List Int := hdr p ++ p.fs.flatMap funB
theorem insB_len (x : S26) : (insB x).length ≤ 6 := by
  unfold insB
  split
  · rw [List.length_append, bigB_len]; simp
  · simp
/-- A literal of bytes. -/
theorem lit_R (W : World) (base : Nat) (ys : List Int) (hb : base ≤ W.heap.size) (hl : ys.length ≤ 100) : RB (W.alloc (.cells (ys.map (Value.int .u8)).toArray 5)) base (.slice (some ⟨W.heap.size, 0, none⟩) ys.length ys.length) ys := by
  refine Kd.R_of_own ?_ (fun _ _ => trivial)
  have h := World.ownsRow_lit (base := base) (e := 5) (size := 1) W (ys.map (Value.int .u8)).toArray ys.length hb (by simp only [maxLen]; omega) (by simp)
  simpa [encs] using h
theorem lit_C' (W : World) (g : Nat) (ys : List Int) (h : W.heap[g]? = some (.cells (ys.map (Value.int .u8)).toArray 5 (0, 0))) (hl : ys.length ≤ 100) : (Kd.int .u8).C W (some ⟨g, 0, none⟩) ys.length ys := by
  have hR : RB W 0 (.slice (some ⟨g, 0, none⟩) ys.length ys.length) ys := by
    refine Kd.R_of_own ⟨by simp [encs], .inr ⟨g, ys.length, _, rfl, Nat.zero_le _, h, Nat.le_refl _, by simp only [maxLen]; omega, by simp, ?_⟩⟩ (fun _ _ => trivial)
    simp only [encs, Nat.mul_one]
    exact List.take_of_length_le (by simp)
  exact (Kd.R_reads' hR).2.2
theorem lit_C (W : World) (ys : List Int) (hl : ys.length ≤ 100) : (Kd.int .u8).C (W.alloc (.cells (ys.map (Value.int .u8)).toArray 5)) (some ⟨W.heap.size, 0, none⟩) ys.length ys :=
  (Kd.R_reads' (lit_R W 0 ys (Nat.zero_le _) hl)).2.2
theorem ins_reads {w : World} {b : Nat} {x : S26} (h : w.heap[b]? = some (.cells #[.int .i64 x.f0, .int .i64 x.f1, .int .i64 x.f2, .int .i64 x.f3] 26 (0, 0))) :
    w.cell? ⟨b, 0, none⟩ = some (.int .i64 x.f0) ∧ w.cell? ⟨b, 1, none⟩ = some (.int .i64 x.f1) ∧ w.cell? ⟨b, 2, none⟩ = some (.int .i64 x.f2) ∧ w.cell? ⟨b, 3, none⟩ = some (.int .i64 x.f3) :=
  ⟨cell_of_row w b 0 _ 26 (0, 0) h, cell_of_row w b 1 _ 26 (0, 0) h, cell_of_row w b 2 _ 26 (0, 0) h, cell_of_row w b 3 _ 26 (0, 0) h⟩
theorem xblk {wr w9 : World} {base : Nat} {u : Value} {ys : List Int} {o o2 o' : Obj} (hR : RB wr base u ys) (hg : ((wr.alloc o).alloc o2).grownBy w9 u.ownBlock) (h : (wr.alloc o).heap[wr.heap.size]? = some o') : w9.heap[wr.heap.size]? = some o' :=
  (hg.block wr.heap.size (by rw [World.size_alloc, World.size_alloc]; omega) (fun he => by have := Kd.R_lt hR _ he.symm; omega)).trans (blk_alloc h o2)
theorem size_one {w : World} {n : Nat} (h : n ≤ w.heap.size) (o : Obj) : n ≤ (w.alloc o).heap.size := by rw [World.size_alloc]; omega
theorem size_two {w : World} {n : Nat} (h : n ≤ w.heap.size) (o o2 : Obj) : n ≤ ((w.alloc o).alloc o2).heap.size := size_one (size_one h o) o2
theorem below_two {n : Nat} {w0 w : World} (h : Below n w0 w) (hn : n ≤ w.heap.size) (o o2 : Obj) : Below n w0 ((w.alloc o).alloc o2) := (h.alloc hn o).alloc (size_one hn o) o2
theorem u8w (n : Int) : IntKind.u8.wrap n = n % 256 := by rfl



theorem cell_below {w w' : World} {a : Addr} {v : Value} (h : w.cell? a = some v) (hb : Below w.heap.size w w') : w'.cell? a = some v := by
  have hlt : a.block < w.heap.size := by
    rcases Nat.lt_or_ge a.block w.heap.size with h' | h'
    · exact h'
    · simp [World.cell?, Array.getElem?_eq_none h'] at h
  unfold World.cell? at h ⊢
  rw [hb.block _ hlt]
  exact h
theorem fm_step {α β : Type} (g : α → List β) (xs : List α) (j : Nat) (h : j < xs.length) : (xs.take (j + 1)).flatMap g = (xs.take j).flatMap g ++ g (xs[j]'h) := by
  rw [← List.take_append_getElem h, List.flatMap_append]
  simp
theorem hdr_len (p : PG) : (hdr p).length = 8 := by simp [hdr, bigB_len]
theorem fm_len (f : List S26) (j : Nat) : ((f.take j).flatMap insB).length ≤ 6 * j := by
  induction j with
  | zero => simp
  | succ j ih =>
    by_cases h : j < f.length
    · rw [fm_step insB f j h, List.length_append]
      have := insB_len (f[j]'h)
      omega
    · rw [List.take_of_length_le (by omega)]
      rw [List.take_of_length_le (by omega)] at ih
      omega
theorem funB_len (f : List S26) : (funB f).length ≤ 1 + 6 * f.length := by
  have := fm_len f f.length
  rw [List.take_length] at this
  rw [funB, List.length_cons]
  omega
theorem fs_len (fs : List (List S26)) (h : fs.any longF = false) (k : Nat) : ((fs.take k).flatMap funB).length ≤ 241 * k := by
  induction k with
  | zero => simp
  | succ k ih =>
    by_cases hk : k < fs.length
    · rw [fm_step funB fs k hk, List.length_append]
      have h1 := funB_len (fs[k]'hk)
      have h2 := List.any_eq_false.mp h (fs[k]'hk) (List.getElem_mem hk)
      simp only [longF, decide_eq_true_eq] at h2
      omega
    · rw [List.take_of_length_le (by omega)]
      rw [List.take_of_length_le (by omega)] at ih
      omega
theorem lit2_C (wr : World) (o : Obj) (a b : Int) : (Kd.int .u8).C ((wr.alloc o).alloc (.cells #[.int .u8 a, .int .u8 b] 5)) (some ⟨wr.heap.size + 1, 0, none⟩) 2 [a, b] := by
  refine lit_C' _ (wr.heap.size + 1) [a, b] ?_ (by simp)
  have := heap_alloc_new (wr.alloc o) (.cells #[.int .u8 a, .int .u8 b] 5)
  rw [World.size_alloc] at this
  exact this
theorem err_zero {p : PG} (h : errOf p = 0) : ¬ 12 < p.fs.length ∧ p.fs.any longF = false ∧ numsOk p = true ∧ p.fs.all (fun f => f.all shape) = true := by
  unfold errOf at h
  split at h
  · cases h
  split at h
  · cases h
  split at h
  · cases h
  split at h
  · rename_i h1 h2 h3 h4
    refine ⟨h1, Bool.eq_false_iff.mpr h2, ?_, h4⟩
    cases hn : numsOk p
    · exact absurd hn h3
    · rfl
  · cases h
theorem inf5 : Try.prog.info? 5 = some Try.t5 := by kernel_rfl
theorem app_mgp {ops : Array Oper} {rest : List Oper} {o : Oper} {a : Act} {Q : Exit → Act → World → Prop} (w1 : World) (hgd : o.guard = none) (s x : Operand)
    (hop : o.op = .call { callee := .builtin .append, args := #[s, x], argTypes := #[48, 48] }) (x1 x2 : Int)
    (hs : a.eval s = .slice (some ⟨w1.heap.size, 0, none⟩) 3 3) (hx : a.eval x = .slice (some ⟨w1.heap.size + 1, 0, none⟩) 2 2)
    (h : ∀ v' w', RB w' w1.heap.size v' [77, 71, 80, x1, x2] → Below w1.heap.size w1 w' → wpList Try.prog ops Q rest (a.put o.dst v') w') :
    wpList Try.prog ops Q (o :: rest) a ((w1.alloc (.cells #[.int .u8 77, .int .u8 71, .int .u8 80] 5 (3, 4))).alloc (.cells #[.int .u8 x1, .int .u8 x2] 5)) := by
  have h0 : ((w1.alloc (.cells #[.int .u8 77, .int .u8 71, .int .u8 80] 5 (3, 4))).alloc (.cells #[.int .u8 x1, .int .u8 x2] 5)).heap[w1.heap.size]? = some (.cells #[.int .u8 77, .int .u8 71, .int .u8 80] 5 (3, 4)) := blk_alloc (heap_alloc_new _ _) _
  have h1 : ((w1.alloc (.cells #[.int .u8 77, .int .u8 71, .int .u8 80] 5 (3, 4))).alloc (.cells #[.int .u8 x1, .int .u8 x2] 5)).heap[w1.heap.size + 1]? = some (.cells #[.int .u8 x1, .int .u8 x2] 5 (0, 0)) := by
    have := heap_alloc_new (w1.alloc (.cells #[.int .u8 77, .int .u8 71, .int .u8 80] 5 (3, 4))) (.cells #[.int .u8 x1, .int .u8 x2] 5)
    rw [World.size_alloc] at this
    exact this
  have hB : Below w1.heap.size w1 ((w1.alloc (.cells #[.int .u8 77, .int .u8 71, .int .u8 80] 5 (3, 4))).alloc (.cells #[.int .u8 x1, .int .u8 x2] 5)) := below_alloc (below_alloc (Below.refl _ _) _) _
  have hsz : w1.heap.size ≤ ((w1.alloc (.cells #[.int .u8 77, .int .u8 71, .int .u8 80] 5 (3, 4))).alloc (.cells #[.int .u8 x1, .int .u8 x2] 5)).heap.size := hB.size
  revert h0 h1 hB hsz
  generalize ((w1.alloc (.cells #[.int .u8 77, .int .u8 71, .int .u8 80] 5 (3, 4))).alloc (.cells #[.int .u8 x1, .int .u8 x2] 5)) = W
  intro h0 h1 hB hsz
  refine wpList_append_grows W hgd s x 48 hop 5 Try.t5 (.int .u8 0) 1 1 Try.underlying48 inf5 (by kernel_rfl) (by kernel_rfl) (by kernel_rfl) rfl (by decide)
    (some ⟨w1.heap.size, 0, none⟩) 3 3 [.int .u8 77, .int .u8 71, .int .u8 80] hs (by simp) rfl (fun b hb j u hu => ?_) ⟨w1.heap.size + 1, 0, none⟩ 2 2 [.int .u8 x1, .int .u8 x2] hx rfl (fun j u hu => ?_) (by simp [Value.oneCell']) (by decide) (by decide) (by decide) (fun v' w' hown hg => ?_)
  · obtain rfl := Option.some.inj hb
    rw [Addr.add_lit, Nat.zero_add, cell_of_row W w1.heap.size j _ 5 (3, 4) h0]
    simpa using hu
  · rw [Addr.add_lit, Nat.zero_add, cell_of_row W (w1.heap.size + 1) j _ 5 (0, 0) h1]
    simpa using hu
  · refine h v' w' (Kd.R_of_own (own_less (by simpa [encs] using hown) hsz) (fun _ _ => trivial)) ?_
    exact pw_below_grown hB none hsz hg (fun k hk => by cases hk)
set_option maxHeartbeats 1000000 in
theorem Put_calls (p : PG) (A : Option Addr) (c : Nat) (w : World) (hC : p.C w A) :
    Calls Try.prog 15 #[p.val A c] w fun e w' => e = .returned (.tuple #[.string (if errOf p = 0 then strOfNums (putB p) else ⟨#[]⟩), .int .i64 (errOf p)]) ∧ Below w.heap.size w w' := by
  obtain ⟨RES, hRES⟩ : ∃ v, Value.string (if errOf p = 0 then strOfNums (putB p) else ⟨#[]⟩) = v := ⟨_, rfl⟩
  rw [hRES]
  have S0 := Aside0.mk (show (w.alloc (.cells #[.slice A p.fs.length c, .int .i64 p.fu, .int .i64 p.de, .int .i64 p.fl] 33)).heap[w.heap.size]? = some (.cells (p.cells A c) 33 (0, 0)) from heap_alloc_new w _)
  have HB := Aside0.mk (below_alloc (Below.refl w.heap.size w) (.cells #[.slice A p.fs.length c, .int .i64 p.fu, .int .i64 p.de, .int .i64 p.fl] 33))
  have HC0 := Aside0.mk hC
  clear hC
  show Calls Try.prog 15 #[.agg #[.slice A p.fs.length c, .int .i64 p.fu, .int .i64 p.de, .int .i64 p.fl]] w _
  go_enter Try.func15, Try.ntmps15
  go_wp2_with (fail)
  refine (check_calls p A c _ (Kd.C_below HC0.out HB.out)).mono ?_
  rintro e w1 ⟨rfl, hb1⟩
  have S1 := Aside0.mk (blk_below S0.out hb1)
  have HB1 := Aside0.mk (below_step HB.out hb1)
  clear S0 HB hb1
  by_cases hz : errOf p = 0
  · obtain ⟨h12, hlong, hnum, hsh⟩ := err_zero hz
    have E := Aside0.mk (show RES = .string (strOfNums (putB p)) by rw [← hRES, if_pos hz])
    have HZ := Aside0.mk hz
    rw [hz]
    clear hRES hz
    have HC1 := Aside0.mk (Kd.C_below HC0.out HB1.out)
    obtain ⟨r0, r1, r2, r3⟩ := prog_reads S1.out
    have hbs := blk_lt S1.out
    have kc := fun (w : World) (C : Array Value) (n c : Nat) => Lib.run_convert_bytes_const (P := Try.prog) w 48 5 C n c Try.underlying48 Try.underlying5
    go_wp2_with (at_builtin; refine app_mgp w1 rfl (.tmp 16) (.tmp 23) rfl (p.fu % 256) (p.de % 256) rfl rfl ?_; intro v2 w2 hR2 hb2; have HR2 := Aside0.mk hR2; have HB2 := Aside0.mk hb2; clear hR2 hb2)
    refine canon [.pure 0, .pure 1, .pure 4, .held 2, .held 5, .pure 6, .pure 7, .two 3 8, .eff 9, .pure 10] [] (fun W => W.heap[w.heap.size]? = some (.cells (p.cells A c) 33 (0, 0))) (by kernel_rfl) rfl rfl (by kernel_rfl) (by intro c d v a w h; cases d <;> exact h) ?_
    intro w3 hb3 _
    have hs2 := HB2.out.size
    have S3 := Aside0.mk ((hb3.block _ (by omega)).trans (blk_below S1.out HB2.out))
    have HR3 := Aside0.mk (Kd.R_below HR2.out hb3)
    have HB3 := Aside0.mk (below_step HB2.out hb3)
    have hs3 := HB3.out.size
    clear hb3 HR2 HB2
    repeat (first | (refine c_pure rfl rfl (by rfl) (v := ?_) ?_ (a' := ?_) ?_ ?_; rotate_left; (focus (intro w'; go_simp; with_reducible rfl)); rotate_left; (focus ((try simp only [Act.put, List.setIfInBounds_toArray, List.set_cons_zero, List.set_cons_succ, i64_w, i32_w]); rfl))) | (refine c_off rfl rfl (by rfl) (a' := ?_) ?_ ?_; rotate_left; (focus ((try simp only [Act.put, List.setIfInBounds_toArray, List.set_cons_zero, List.set_cons_succ, i64_w, i32_w]); rfl))))
    (refine c_cell rfl rfl (by rfl) (S3.out) 3 (.tmp 26) rfl (⟨w.heap.size, 3, none⟩) rfl (.int .i64 p.fl) (fun w' hS' => (prog_reads hS').2.2.2) Try.underlying3 rfl (a' := ?_) ?_ ?_; rotate_left; (focus ((try simp only [Act.put, List.setIfInBounds_toArray, List.set_cons_zero, List.set_cons_succ, i64_w, i32_w]); rfl)))
    (refine c_cell rfl rfl (by rfl) (S3.out) 31 (.tmp 29) rfl (⟨w.heap.size, 0, none⟩) rfl (.slice A p.fs.length c) (fun w' hS' => (prog_reads hS').1) Try.underlying31 rfl (a' := ?_) ?_ ?_; rotate_left; (focus ((try simp only [Act.put, List.setIfInBounds_toArray, List.set_cons_zero, List.set_cons_succ, i64_w, i32_w]); rfl)))
    repeat (first | (refine c_pure rfl rfl (by rfl) (v := ?_) ?_ (a' := ?_) ?_ ?_; rotate_left; (focus (intro w'; go_simp; with_reducible rfl)); rotate_left; (focus ((try simp only [Act.put, List.setIfInBounds_toArray, List.set_cons_zero, List.set_cons_succ, i64_w, i32_w]); rfl))) | (refine c_off rfl rfl (by rfl) (a' := ?_) ?_ ?_; rotate_left; (focus ((try simp only [Act.put, List.setIfInBounds_toArray, List.set_cons_zero, List.set_cons_succ, i64_w, i32_w]); rfl))))
    refine c_two rfl rfl (fun K hK => ?_) (fun K hK => ?_)
    · go_simp
      refine (big_calls v2 _ p.fl 2 (by omega) w1.heap.size _ HR3.out (by omega) (by simp)).mono ?_
      rintro e w4 ⟨v3, rfl, hR4, hb4, _, _⟩
      have hs4 := hb4.size
      refine hK _ _ ⟨fun h => (hb4.block _ (by omega)).trans h, ?_⟩
      clear hK K
      have S4 := Aside0.mk ((hb4.block _ (by omega)).trans S3.out)
      have HR4 := Aside0.mk hR4
      have HB4 := Aside0.mk (HB3.out.trans hb4)
      clear hR4 hb4 S3 HR3 HB3
      refine op_of rfl (fun K hK => ?_)
      go_simp
      have hlen : ([(p.fs.length : Int) % 256] : List Int).length ≤ 100 := by simp
      have LC := Aside0.mk (lit_C w4 [(p.fs.length : Int) % 256] hlen)
      refine hK _ _ ⟨fun h => blk_alloc h _, ?_⟩
      clear hK K
      have S5 := Aside0.mk (blk_alloc S4.out (.cells #[.int .u8 ((p.fs.length : Int) % 256)] 5))
      have HR5 := Aside0.mk (Kd.R_alloc HR4.out (.cells #[.int .u8 ((p.fs.length : Int) % 256)] 5))
      have hs41 : w1.heap.size ≤ w4.heap.size := by omega
      have HB5 := Aside0.mk (HB4.out.alloc hs41 (.cells #[.int .u8 ((p.fs.length : Int) % 256)] 5))
      clear S4 HR4 HB4 hs41
      have hs51 : w1.heap.size ≤ ((w4.alloc (.cells #[.int .u8 ((p.fs.length : Int) % 256)] 5))).heap.size := HB5.out.size
      (refine c_norm (a' := ?_) ?_ ?_; rotate_left; (focus ((try simp only [Act.put, List.setIfInBounds_toArray, List.set_cons_zero, List.set_cons_succ, i64_w, i32_w]); rfl)))
      refine c_eff rfl (fun K hK => ?_)
      refine Kd.R_append_rows_step (Kd.int .u8) (w0 := w1) w1.heap.size (by rfl) (.tmp 28) (.tmp 33) 48 5 (.int .u8 0) 1 rfl Try.underlying48 info5 rfl (by decide) (by omega) v3 _ [(p.fs.length : Int) % 256] (some ⟨w4.heap.size, 0, none⟩) 1 1 (fun _ => True) (fun _ => False) rfl rfl HR5.out LC.out (fun _ _ h => h) (fun _ hk => hk.elim) (fun _ _ => trivial) HB5.out hs51 (by simp [bigB_len]) ?_
      intro v4 w6 ho hb6 hg6 _
      have S6 := Aside0.mk ((hb6.block w.heap.size (by omega)).trans S1.out)
      refine hK _ _ (fun _ => S6.out) ?_
      clear hK K
      have HR6 := Aside0.mk (show RB w6 w1.heap.size v4 (hdr p) from ho)
      have HB6 := Aside0.mk hb6
      clear ho hb6 hg6 HR5 HB5 S5 LC
      (refine c_norm (a' := ?_) ?_ ?_; rotate_left; (focus ((try simp only [Act.put, List.setIfInBounds_toArray, List.set_cons_zero, List.set_cons_succ, i64_w, i32_w]); rfl)))
      repeat (first | (refine c_pure rfl rfl (by rfl) (v := ?_) ?_ (a' := ?_) ?_ ?_; rotate_left; (focus (intro w'; go_simp; with_reducible rfl)); rotate_left; (focus ((try simp only [Act.put, List.setIfInBounds_toArray, List.set_cons_zero, List.set_cons_succ, i64_w, i32_w]); rfl))) | (refine c_off rfl rfl (by rfl) (a' := ?_) ?_ ?_; rotate_left; (focus ((try simp only [Act.put, List.setIfInBounds_toArray, List.set_cons_zero, List.set_cons_succ, i64_w, i32_w]); rfl))))
      refine c_done ?_
      simp only [u8w]
      obtain ⟨r0, r1, r2, r3⟩ := prog_reads S6.out
      have HS := Aside0.mk hbs
      clear hs2 hs3 hs4 hs51 hbs hlen
      go_wp2_with (fail)
      clear r0 r1 r2 r3
      go_loopw [5, 38] (fun u5 u38 w' => ∃ k : Nat, u38 = .int .i64 k ∧ k ≤ p.fs.length ∧ Aside0 (RB w' w1.heap.size u5 (hdr p ++ (p.fs.take k).flatMap funB)) ∧ Aside0 (Below w1.heap.size w1 w')) (fun _ u38 _ => p.fs.length - (intOf u38).toNat)
      case atStart => exact ⟨0, rfl, by omega, ⟨by rw [List.take_zero, List.flatMap_nil, List.append_nil]; exact HR6.out⟩, HB6⟩
      case round =>
        obtain ⟨k, rfl, hk, HO, HJ⟩ := hrel
        by_cases hlt : k < p.fs.length
        · obtain ⟨ad, A0, c0, hA, a0', hc0, hA0⟩ := at_L2 HC1.out k (by omega) (by omega)
          subst hA
          have a0 := cell_below a0' HJ.out
          clear a0'
          rw [Int.toNat_natCast, rd_L2_at p.fs k hlt] at a0
          rw [rd_L2_at p.fs k hlt] at hA0 hc0
          have hix := fun (W : World) => ix31 ad p.fs.length c (k : Int) k W (by omega) (by omega) (Int.toNat_natCast k)
          obtain ⟨f, hf⟩ : ∃ f, p.fs[k]'hlt = f := ⟨_, rfl⟩
          have hst := fm_step funB p.fs k hlt
          have hf40 : f.length ≤ 40 := by
            have h2 := List.any_eq_false.mp hlong f (by rw [← hf]; exact List.getElem_mem hlt)
            simp only [longF, decide_eq_true_eq] at h2
            omega
          have hXl := fs_len p.fs hlong k
          have hXh := hdr_len p
          obtain ⟨X, hX⟩ : ∃ X, hdr p ++ (p.fs.take k).flatMap funB = X := ⟨_, rfl⟩
          have hXL : X.length ≤ 3000 := by rw [← hX, List.length_append]; omega
          have HST := Aside0.mk (show hdr p ++ (p.fs.take (k + 1)).flatMap funB = X ++ funB f by rw [hst, ← List.append_assoc, hX, hf])
          rw [hX] at HO
          rw [hf] at a0 hA0 hc0
          have FC := Aside0.mk hA0
          have HF40 := Aside0.mk hf40
          have HW5 := Aside0.mk (show wrap64 ((k : Int) + 1) = (k : Int) + 1 from wrap64_id _ (by omega))
          clear hst hA0 hf hc0 hf40 hXl hXh hX
          have hsj := HJ.out.size
          go_wp2_with (at_builtin; refine Kd.R_append (Kd.int .u8) (w0 := w1) w1.heap.size rfl (.tmp 42) (.tmp 46) 48 5 (.int .u8 0) 1 rfl Try.underlying48 info5 rfl (by decide) (by omega) u5 X _ _ (fun _ => True) (fun _ => False) rfl rfl rfl (fun _ hk => hk.elim) (fun _ _ => trivial) HO.out HJ.out hsj (by omega) ?_; intro y1 w8 ho hb8 hg8 _; have HO1 := Aside0.mk (show RB w8 w1.heap.size y1 (X ++ [(f.length : Int) % 256]) from ho); have HB8 := Aside0.mk hb8; clear ho hb8 hg8)
          clear a0 hix HO HJ hsj
          go_loopw [5, 50] (fun u5 u50 w' => ∃ j : Nat, u50 = .int .i64 j ∧ j ≤ f.length ∧ Aside0 (RB w' w1.heap.size u5 (X ++ [(f.length : Int) % 256] ++ (f.take j).flatMap insB)) ∧ Aside0 (Below w1.heap.size w1 w')) (fun _ u50 _ => f.length - (intOf u50).toNat)
          case atStart => exact ⟨0, rfl, by omega, ⟨by rw [List.take_zero, List.flatMap_nil, List.append_nil]; exact HO1.out⟩, HB8⟩
          case round =>
            obtain ⟨j, rfl, hj, HO, HJ⟩ := hrel
            have hf40 := HF40.out
            by_cases hjl : j < f.length
            · obtain ⟨af, hA, b0', b1', b2', b3'⟩ := at_T26 FC.out j (by omega) (by omega)
              subst hA
              obtain ⟨nn, hnn⟩ : ∃ nn : Nat, ((j : Int)).toNat * 4 = nn := ⟨_, rfl⟩
              rw [hnn, rd_T26_at f j hjl] at b0' b1' b2' b3'
              obtain ⟨x, hx⟩ : ∃ x, f[j]'hjl = x := ⟨_, rfl⟩
              rw [hx] at b0' b1' b2' b3'
              have b0 := cell_below b0' HJ.out
              have b1 := cell_below b1' HJ.out
              have b2 := cell_below b2' HJ.out
              have b3 := cell_below b3' HJ.out
              have hst := fm_step insB f j hjl
              rw [hx] at hst
              have hfl := fm_len f j
              obtain ⟨Y, hY⟩ : ∃ Y, X ++ [(f.length : Int) % 256] ++ (f.take j).flatMap insB = Y := ⟨_, rfl⟩
              have hYL : Y.length ≤ 4000 := by
                rw [← hY, List.length_append, List.length_append, List.length_singleton]
                omega
              have HST2 := Aside0.mk (show X ++ [(f.length : Int) % 256] ++ (f.take (j + 1)).flatMap insB = Y ++ insB x by rw [hst, ← List.append_assoc, hY])
              rw [hY] at HO
              have hix := fun (W : World) => ix38 af f.length c0 (j : Int) nn W (by omega) (by omega) hnn
              have HW6 := Aside0.mk (show wrap64 ((j : Int) + 1) = (j : Int) + 1 from wrap64_id _ (by omega))
              clear b0' b1' b2' b3' hnn hx hst hfl hY
              have hsj := HJ.out.size
              have hXB := Aside0.mk (heap_alloc_new wr (.cells #[.int .i64 x.f0, .int .i64 x.f1, .int .i64 x.f2, .int .i64 x.f3] 26))
              have hw6 := HW6.out
              by_cases hop : x.f0 = 1
              · have t1 : (x.f0 == 1) = true := beq_iff_eq.mpr hop
                have HOP := Aside0.mk (show insB x = [x.f0 % 256, x.f1 % 256] ++ bigB x.f2 4 from congrArg _ (if_pos hop))
                clear hop
                go_wp2_with (at_builtin; (refine Kd.R_append_row (Value.int .u8) 0 (w0 := w1) w1.heap.size rfl (.tmp 54) (.tmp 61) 48 5 (.int .u8 0) 1 rfl Try.underlying48 info5 rfl (by decide) u5 Y [x.f0 % 256, x.f1 % 256] (some ⟨wr.heap.size + 1, 0, none⟩) 2 2 (fun _ => True) rfl rfl (fun _ _ => trivial) (Kd.R_alloc (Kd.R_alloc HO.out _) _) (lit2_C wr _ _ _) (below_two HJ.out hsj _ _) (size_two hsj _ _) (by omega) ?_; intro y2 w9 ho hb9 hg9 _; have HO9 := Aside0.mk ho; have HB9 := Aside0.mk hb9; obtain ⟨z0, z1, z2, z3⟩ := ins_reads (xblk HO.out hg9 hXB.out); clear ho hb9 hg9))
                refine (big_calls y2 _ x.f2 4 (by omega) w1.heap.size _ HO9.out HB9.out.size (by rw [List.length_append]; simp only [List.length_cons, List.length_nil]; omega)).mono ?_
                rintro e w10 ⟨y3, rfl, hR10, hb10, _, _⟩
                have HB10 := Aside0.mk (HB9.out.trans hb10)
                have HO10 := Aside0.mk (show RB w10 w1.heap.size y3 (X ++ [(f.length : Int) % 256] ++ (f.take (j + 1)).flatMap insB) by rw [HST2.out, HOP.out, ← List.append_assoc]; exact hR10)
                clear hR10 hb10
                go_wp2_with (fail)
                go_roundw
                case rel => exact ⟨j + 1, by first | rfl | go_num, by omega, HO10, HB10⟩
                case measure => first | exact meas1 hjl HW6.out | (simp only [intOf]; omega)
              · have t1 : (x.f0 == 1) = false := beq_eq_false_iff_ne.mpr hop
                have HOP := Aside0.mk (show insB x = [x.f0 % 256, x.f1 % 256] ++ [x.f2 % 256, x.f3 % 256] from congrArg _ (if_neg hop))
                clear hop
                go_wp2_with (at_builtin; first | (refine Kd.R_append_row (Value.int .u8) 0 (w0 := w1) w1.heap.size rfl (.tmp 54) (.tmp 61) 48 5 (.int .u8 0) 1 rfl Try.underlying48 info5 rfl (by decide) u5 Y [x.f0 % 256, x.f1 % 256] (some ⟨wr.heap.size + 1, 0, none⟩) 2 2 (fun _ => True) rfl rfl (fun _ _ => trivial) (Kd.R_alloc (Kd.R_alloc HO.out _) _) (lit2_C wr _ _ _) (below_two HJ.out hsj _ _) (size_two hsj _ _) (by omega) ?_; intro y2 w9 ho hb9 hg9 _; have HO9 := Aside0.mk ho; have HB9 := Aside0.mk hb9; obtain ⟨z0, z1, z2, z3⟩ := ins_reads (xblk HO.out hg9 hXB.out); clear ho hb9 hg9) | (refine Kd.R_append_row (Value.int .u8) 0 (w0 := w1) w1.heap.size rfl (.tmp 70) (.tmp 77) 48 5 (.int .u8 0) 1 rfl Try.underlying48 info5 rfl (by decide) y2 (Y ++ [x.f0 % 256, x.f1 % 256]) [x.f2 % 256, x.f3 % 256] (some ⟨w9.heap.size, 0, none⟩) 2 2 (fun _ => True) rfl rfl (fun _ _ => trivial) (Kd.R_alloc HO9.out _) (lit_C w9 [x.f2 % 256, x.f3 % 256] (by simp)) (HB9.out.alloc HB9.out.size _) (size_one HB9.out.size _) (by rw [List.length_append]; simp only [List.length_cons, List.length_nil]; omega) ?_; intro y3 w10 ho hb10 _ _; have HR10 := Aside0.mk ho; have HB10 := Aside0.mk hb10; clear ho hb10))
                have HO10 := Aside0.mk (show RB w10 w1.heap.size y3 (X ++ [(f.length : Int) % 256] ++ (f.take (j + 1)).flatMap insB) by rw [HST2.out, HOP.out, ← List.append_assoc]; exact HR10.out)
                go_roundw
                case rel => exact ⟨j + 1, by first | rfl | go_num, by omega, HO10, HB10⟩
                case measure => first | exact meas1 hjl HW6.out | (simp only [intOf]; omega)
            · obtain rfl : j = f.length := by omega
              have HO2 := Aside0.mk (show RB wr w1.heap.size u5 (hdr p ++ (p.fs.take (k + 1)).flatMap funB) by
                have h := HO.out
                rw [List.take_length] at h
                rw [HST.out, funB]
                rw [List.append_assoc] at h
                exact h)
              have hw5 := HW5.out
              clear HO
              go_wp2_with (fail)
              go_roundw
              case rel => exact ⟨k + 1, by first | rfl | go_num, by omega, HO2, HJ⟩
              case measure => first | exact meas1 hlt HW5.out | (simp only [intOf]; omega)
        · obtain rfl : k = p.fs.length := by omega
          have HP := Aside0.mk (show RB wr w1.heap.size u5 (putB p) by have h := HO.out; rw [List.take_length] at h; exact h)
          obtain ⟨A5, c5, e5⟩ := Kd.R_slice HP.out
          subst e5
          obtain ⟨_, _, hC5⟩ := Kd.R_reads' HP.out
          have hcv := fun (W : World) (h : W = wr) => show (convert 48 9 (.slice A5 (putB p).length c5)).run Try.prog W = .ok (.string (strOfNums (putB p))) W by rw [h]; exact Kd.C_string Try.underlying48 Try.underlying5 Try.underlying9 hC5
          have hcv2 := hcv wr rfl
          clear hcv hC5 HO
          go_wp2_with (fail)
          go_ret2
          exact ⟨by rw [E.out, HZ.out]; rfl, below_step HB1.out HJ.out⟩
    · go_simp
      have hlen : ([(p.fs.length : Int) % 256] : List Int).length ≤ 100 := by simp
      have LC3 := Aside0.mk (lit_C w3 [(p.fs.length : Int) % 256] hlen)
      refine hK _ _ ⟨fun h => blk_alloc h _, ?_⟩
      clear hK K
      have S4 := Aside0.mk (blk_alloc S3.out (.cells #[.int .u8 ((p.fs.length : Int) % 256)] 5))
      have HR4 := Aside0.mk (Kd.R_alloc HR3.out (.cells #[.int .u8 ((p.fs.length : Int) % 256)] 5))
      have HB4 := Aside0.mk (HB3.out.alloc hs3 (.cells #[.int .u8 ((p.fs.length : Int) % 256)] 5))
      have hs4 := HB4.out.size
      refine op_of rfl (fun K hK => ?_)
      go_simp
      refine (big_calls v2 _ p.fl 2 (by omega) w1.heap.size _ HR4.out (by omega) (by simp)).mono ?_
      rintro e w4 ⟨v3, rfl, hR5', hb5, hkp, _⟩
      have hs5 := hb5.size
      refine hK _ _ ⟨fun h => (hb5.block _ (by omega)).trans h, ?_⟩
      clear hK K
      have hg3 : w4.heap[w3.heap.size]? = some (.cells #[.int .u8 ((p.fs.length : Int) % 256)] 5 (0, 0)) := (hkp w3.heap.size (by rw [World.size_alloc]; omega) (fun he => by have := Kd.R_lt HR3.out _ he.symm; omega)).trans (heap_alloc_new _ _)
      have LC := Aside0.mk (lit_C' w4 w3.heap.size [(p.fs.length : Int) % 256] hg3 (by simp))
      have S5 := Aside0.mk ((hb5.block _ (by omega)).trans S4.out)
      have HR5 := Aside0.mk hR5'
      have HB5 := Aside0.mk (HB4.out.trans hb5)
      clear hg3 hkp hR5' LC3 hs5 hb5 S4 HR4 HB4 S3 HR3 HB3
      have hs51 : w1.heap.size ≤ (w4).heap.size := HB5.out.size
      (refine c_norm (a' := ?_) ?_ ?_; rotate_left; (focus ((try simp only [Act.put, List.setIfInBounds_toArray, List.set_cons_zero, List.set_cons_succ, i64_w, i32_w]); rfl)))
      refine c_eff rfl (fun K hK => ?_)
      refine Kd.R_append_rows_step (Kd.int .u8) (w0 := w1) w1.heap.size (by rfl) (.tmp 28) (.tmp 33) 48 5 (.int .u8 0) 1 rfl Try.underlying48 info5 rfl (by decide) (by omega) v3 _ [(p.fs.length : Int) % 256] (some ⟨w3.heap.size, 0, none⟩) 1 1 (fun _ => True) (fun _ => False) rfl rfl HR5.out LC.out (fun _ _ h => h) (fun _ hk => hk.elim) (fun _ _ => trivial) HB5.out hs51 (by simp [bigB_len]) ?_
      intro v4 w6 ho hb6 hg6 _
      have S6 := Aside0.mk ((hb6.block w.heap.size (by omega)).trans S1.out)
      refine hK _ _ (fun _ => S6.out) ?_
      clear hK K
      have HR6 := Aside0.mk (show RB w6 w1.heap.size v4 (hdr p) from ho)
      have HB6 := Aside0.mk hb6
      clear ho hb6 hg6 HR5 HB5 S5 LC
      (refine c_norm (a' := ?_) ?_ ?_; rotate_left; (focus ((try simp only [Act.put, List.setIfInBounds_toArray, List.set_cons_zero, List.set_cons_succ, i64_w, i32_w]); rfl)))
      repeat (first | (refine c_pure rfl rfl (by rfl) (v := ?_) ?_ (a' := ?_) ?_ ?_; rotate_left; (focus (intro w'; go_simp; with_reducible rfl)); rotate_left; (focus ((try simp only [Act.put, List.setIfInBounds_toArray, List.set_cons_zero, List.set_cons_succ, i64_w, i32_w]); rfl))) | (refine c_off rfl rfl (by rfl) (a' := ?_) ?_ ?_; rotate_left; (focus ((try simp only [Act.put, List.setIfInBounds_toArray, List.set_cons_zero, List.set_cons_succ, i64_w, i32_w]); rfl))))
      refine c_done ?_
      simp only [u8w]
      obtain ⟨r0, r1, r2, r3⟩ := prog_reads S6.out
      have HS := Aside0.mk hbs
      clear hs2 hs3 hs4 hs51 hbs hlen
      go_wp2_with (fail)
      clear r0 r1 r2 r3
      go_loopw [5, 38] (fun u5 u38 w' => ∃ k : Nat, u38 = .int .i64 k ∧ k ≤ p.fs.length ∧ Aside0 (RB w' w1.heap.size u5 (hdr p ++ (p.fs.take k).flatMap funB)) ∧ Aside0 (Below w1.heap.size w1 w')) (fun _ u38 _ => p.fs.length - (intOf u38).toNat)
      case atStart => exact ⟨0, rfl, by omega, ⟨by rw [List.take_zero, List.flatMap_nil, List.append_nil]; exact HR6.out⟩, HB6⟩
      case round =>
        obtain ⟨k, rfl, hk, HO, HJ⟩ := hrel
        by_cases hlt : k < p.fs.length
        · obtain ⟨ad, A0, c0, hA, a0', hc0, hA0⟩ := at_L2 HC1.out k (by omega) (by omega)
          subst hA
          have a0 := cell_below a0' HJ.out
          clear a0'
          rw [Int.toNat_natCast, rd_L2_at p.fs k hlt] at a0
          rw [rd_L2_at p.fs k hlt] at hA0 hc0
          have hix := fun (W : World) => ix31 ad p.fs.length c (k : Int) k W (by omega) (by omega) (Int.toNat_natCast k)
          obtain ⟨f, hf⟩ : ∃ f, p.fs[k]'hlt = f := ⟨_, rfl⟩
          have hst := fm_step funB p.fs k hlt
          have hf40 : f.length ≤ 40 := by
            have h2 := List.any_eq_false.mp hlong f (by rw [← hf]; exact List.getElem_mem hlt)
            simp only [longF, decide_eq_true_eq] at h2
            omega
          have hXl := fs_len p.fs hlong k
          have hXh := hdr_len p
          obtain ⟨X, hX⟩ : ∃ X, hdr p ++ (p.fs.take k).flatMap funB = X := ⟨_, rfl⟩
          have hXL : X.length ≤ 3000 := by rw [← hX, List.length_append]; omega
          have HST := Aside0.mk (show hdr p ++ (p.fs.take (k + 1)).flatMap funB = X ++ funB f by rw [hst, ← List.append_assoc, hX, hf])
          rw [hX] at HO
          rw [hf] at a0 hA0 hc0
          have FC := Aside0.mk hA0
          have HF40 := Aside0.mk hf40
          have HW5 := Aside0.mk (show wrap64 ((k : Int) + 1) = (k : Int) + 1 from wrap64_id _ (by omega))
          clear hst hA0 hf hc0 hf40 hXl hXh hX
          have hsj := HJ.out.size
          go_wp2_with (at_builtin; refine Kd.R_append (Kd.int .u8) (w0 := w1) w1.heap.size rfl (.tmp 42) (.tmp 46) 48 5 (.int .u8 0) 1 rfl Try.underlying48 info5 rfl (by decide) (by omega) u5 X _ _ (fun _ => True) (fun _ => False) rfl rfl rfl (fun _ hk => hk.elim) (fun _ _ => trivial) HO.out HJ.out hsj (by omega) ?_; intro y1 w8 ho hb8 hg8 _; have HO1 := Aside0.mk (show RB w8 w1.heap.size y1 (X ++ [(f.length : Int) % 256]) from ho); have HB8 := Aside0.mk hb8; clear ho hb8 hg8)
          clear a0 hix HO HJ hsj
          go_loopw [5, 50] (fun u5 u50 w' => ∃ j : Nat, u50 = .int .i64 j ∧ j ≤ f.length ∧ Aside0 (RB w' w1.heap.size u5 (X ++ [(f.length : Int) % 256] ++ (f.take j).flatMap insB)) ∧ Aside0 (Below w1.heap.size w1 w')) (fun _ u50 _ => f.length - (intOf u50).toNat)
          case atStart => exact ⟨0, rfl, by omega, ⟨by rw [List.take_zero, List.flatMap_nil, List.append_nil]; exact HO1.out⟩, HB8⟩
          case round =>
            obtain ⟨j, rfl, hj, HO, HJ⟩ := hrel
            have hf40 := HF40.out
            by_cases hjl : j < f.length
            · obtain ⟨af, hA, b0', b1', b2', b3'⟩ := at_T26 FC.out j (by omega) (by omega)
              subst hA
              obtain ⟨nn, hnn⟩ : ∃ nn : Nat, ((j : Int)).toNat * 4 = nn := ⟨_, rfl⟩
              rw [hnn, rd_T26_at f j hjl] at b0' b1' b2' b3'
              obtain ⟨x, hx⟩ : ∃ x, f[j]'hjl = x := ⟨_, rfl⟩
              rw [hx] at b0' b1' b2' b3'
              have b0 := cell_below b0' HJ.out
              have b1 := cell_below b1' HJ.out
              have b2 := cell_below b2' HJ.out
              have b3 := cell_below b3' HJ.out
              have hst := fm_step insB f j hjl
              rw [hx] at hst
              have hfl := fm_len f j
              obtain ⟨Y, hY⟩ : ∃ Y, X ++ [(f.length : Int) % 256] ++ (f.take j).flatMap insB = Y := ⟨_, rfl⟩
              have hYL : Y.length ≤ 4000 := by
                rw [← hY, List.length_append, List.length_append, List.length_singleton]
                omega
              have HST2 := Aside0.mk (show X ++ [(f.length : Int) % 256] ++ (f.take (j + 1)).flatMap insB = Y ++ insB x by rw [hst, ← List.append_assoc, hY])
              rw [hY] at HO
              have hix := fun (W : World) => ix38 af f.length c0 (j : Int) nn W (by omega) (by omega) hnn
              have HW6 := Aside0.mk (show wrap64 ((j : Int) + 1) = (j : Int) + 1 from wrap64_id _ (by omega))
              clear b0' b1' b2' b3' hnn hx hst hfl hY
              have hsj := HJ.out.size
              have hXB := Aside0.mk (heap_alloc_new wr (.cells #[.int .i64 x.f0, .int .i64 x.f1, .int .i64 x.f2, .int .i64 x.f3] 26))
              have hw6 := HW6.out
              by_cases hop : x.f0 = 1
              · have t1 : (x.f0 == 1) = true := beq_iff_eq.mpr hop
                have HOP := Aside0.mk (show insB x = [x.f0 % 256, x.f1 % 256] ++ bigB x.f2 4 from congrArg _ (if_pos hop))
                clear hop
                go_wp2_with (at_builtin; (refine Kd.R_append_row (Value.int .u8) 0 (w0 := w1) w1.heap.size rfl (.tmp 54) (.tmp 61) 48 5 (.int .u8 0) 1 rfl Try.underlying48 info5 rfl (by decide) u5 Y [x.f0 % 256, x.f1 % 256] (some ⟨wr.heap.size + 1, 0, none⟩) 2 2 (fun _ => True) rfl rfl (fun _ _ => trivial) (Kd.R_alloc (Kd.R_alloc HO.out _) _) (lit2_C wr _ _ _) (below_two HJ.out hsj _ _) (size_two hsj _ _) (by omega) ?_; intro y2 w9 ho hb9 hg9 _; have HO9 := Aside0.mk ho; have HB9 := Aside0.mk hb9; obtain ⟨z0, z1, z2, z3⟩ := ins_reads (xblk HO.out hg9 hXB.out); clear ho hb9 hg9))
                refine (big_calls y2 _ x.f2 4 (by omega) w1.heap.size _ HO9.out HB9.out.size (by rw [List.length_append]; simp only [List.length_cons, List.length_nil]; omega)).mono ?_
                rintro e w10 ⟨y3, rfl, hR10, hb10, _, _⟩
                have HB10 := Aside0.mk (HB9.out.trans hb10)
                have HO10 := Aside0.mk (show RB w10 w1.heap.size y3 (X ++ [(f.length : Int) % 256] ++ (f.take (j + 1)).flatMap insB) by rw [HST2.out, HOP.out, ← List.append_assoc]; exact hR10)
                clear hR10 hb10
                go_wp2_with (fail)
                go_roundw
                case rel => exact ⟨j + 1, by first | rfl | go_num, by omega, HO10, HB10⟩
                case measure => first | exact meas1 hjl HW6.out | (simp only [intOf]; omega)
              · have t1 : (x.f0 == 1) = false := beq_eq_false_iff_ne.mpr hop
                have HOP := Aside0.mk (show insB x = [x.f0 % 256, x.f1 % 256] ++ [x.f2 % 256, x.f3 % 256] from congrArg _ (if_neg hop))
                clear hop
                go_wp2_with (at_builtin; first | (refine Kd.R_append_row (Value.int .u8) 0 (w0 := w1) w1.heap.size rfl (.tmp 54) (.tmp 61) 48 5 (.int .u8 0) 1 rfl Try.underlying48 info5 rfl (by decide) u5 Y [x.f0 % 256, x.f1 % 256] (some ⟨wr.heap.size + 1, 0, none⟩) 2 2 (fun _ => True) rfl rfl (fun _ _ => trivial) (Kd.R_alloc (Kd.R_alloc HO.out _) _) (lit2_C wr _ _ _) (below_two HJ.out hsj _ _) (size_two hsj _ _) (by omega) ?_; intro y2 w9 ho hb9 hg9 _; have HO9 := Aside0.mk ho; have HB9 := Aside0.mk hb9; obtain ⟨z0, z1, z2, z3⟩ := ins_reads (xblk HO.out hg9 hXB.out); clear ho hb9 hg9) | (refine Kd.R_append_row (Value.int .u8) 0 (w0 := w1) w1.heap.size rfl (.tmp 70) (.tmp 77) 48 5 (.int .u8 0) 1 rfl Try.underlying48 info5 rfl (by decide) y2 (Y ++ [x.f0 % 256, x.f1 % 256]) [x.f2 % 256, x.f3 % 256] (some ⟨w9.heap.size, 0, none⟩) 2 2 (fun _ => True) rfl rfl (fun _ _ => trivial) (Kd.R_alloc HO9.out _) (lit_C w9 [x.f2 % 256, x.f3 % 256] (by simp)) (HB9.out.alloc HB9.out.size _) (size_one HB9.out.size _) (by rw [List.length_append]; simp only [List.length_cons, List.length_nil]; omega) ?_; intro y3 w10 ho hb10 _ _; have HR10 := Aside0.mk ho; have HB10 := Aside0.mk hb10; clear ho hb10))
                have HO10 := Aside0.mk (show RB w10 w1.heap.size y3 (X ++ [(f.length : Int) % 256] ++ (f.take (j + 1)).flatMap insB) by rw [HST2.out, HOP.out, ← List.append_assoc]; exact HR10.out)
                go_roundw
                case rel => exact ⟨j + 1, by first | rfl | go_num, by omega, HO10, HB10⟩
                case measure => first | exact meas1 hjl HW6.out | (simp only [intOf]; omega)
            · obtain rfl : j = f.length := by omega
              have HO2 := Aside0.mk (show RB wr w1.heap.size u5 (hdr p ++ (p.fs.take (k + 1)).flatMap funB) by
                have h := HO.out
                rw [List.take_length] at h
                rw [HST.out, funB]
                rw [List.append_assoc] at h
                exact h)
              have hw5 := HW5.out
              clear HO
              go_wp2_with (fail)
              go_roundw
              case rel => exact ⟨k + 1, by first | rfl | go_num, by omega, HO2, HJ⟩
              case measure => first | exact meas1 hlt HW5.out | (simp only [intOf]; omega)
        · obtain rfl : k = p.fs.length := by omega
          have HP := Aside0.mk (show RB wr w1.heap.size u5 (putB p) by have h := HO.out; rw [List.take_length] at h; exact h)
          obtain ⟨A5, c5, e5⟩ := Kd.R_slice HP.out
          subst e5
          obtain ⟨_, _, hC5⟩ := Kd.R_reads' HP.out
          have hcv := fun (W : World) (h : W = wr) => show (convert 48 9 (.slice A5 (putB p).length c5)).run Try.prog W = .ok (.string (strOfNums (putB p))) W by rw [h]; exact Kd.C_string Try.underlying48 Try.underlying5 Try.underlying9 hC5
          have hcv2 := hcv wr rfl
          clear hcv hC5 HO
          go_wp2_with (fail)
          go_ret2
          exact ⟨by rw [E.out, HZ.out]; rfl, below_step HB1.out HJ.out⟩
  · have E := Aside0.mk (show RES = .string ⟨#[]⟩ by rw [← hRES, if_neg hz])
    obtain ⟨er, her⟩ : ∃ er, errOf p = er := ⟨_, rfl⟩
    have E2 := Aside0.mk her
    rw [her] at hz ⊢
    have t0 : (er == 0) = false := beq_eq_false_iff_ne.mpr hz
    go_wp2_with (fail)
    go_ret2
    exact ⟨by rw [E.out, her]; rfl, HB1.out⟩
end Go.Proofs.Ytmofaahhnokohaa.Code
