/- Walk of the reference: Get. -/
import Derived.Test.YtmofaahhnokohaaCode17
import Derived.Test.YtmofaahhnokohaaCode18
namespace Go.Proofs.Ytmofaahhnokohaa.Code
set_option linter.unusedSimpArgs false
set_option linter.unusedVariables false
open Go.RowKit Go.Proofs.YtmofaahhnokohaaW.PrintWords Go.Proofs.YtmofaahhnokohaaW.PrintLast Go.Proofs.YtmofaahhnokohaaW.PrintMore PCodeAll Go.Proofs.YtmofaahhnokohaaW.CanonE
attribute [local go_sem] max2_mx min2_mn max_two min_two max_three min_three max_four min_four

theorem idx9 (l : List UInt8) (i : Int) (a : Nat) (b : Nat) (ha : i = a) (h : a < l.length) (hb : (l[a]'h).toNat = b) (W : World) : (Instr.index 9 (.string (bs l)) (.int .i64 i)).run Try.prog W = .ok (.int .u8 b) W := by
  subst ha
  rw [run_index_string (h := Try.underlying9), dif_pos ⟨by omega, by rw [bs_size]; omega⟩]
  subst hb
  rfl
structure RS (w0 : World) (g2 g4 : Nat) (fu de fl : Int) (w : World) (U v : Value) (fs : List (List S26)) (f : List S26) : Prop where
  below : Below w0.heap.size w0 w
  res : w.heap[g2]? = some (.cells #[.slice none 0 0, .int .i64 0, .int .i64 0, .int .i64 0] 33 (0, 0))
  prog : w.heap[g4]? = some (.cells #[U, .int .i64 fu, .int .i64 de, .int .i64 fl] 33 (0, 0))
  funs : RP w w0.heap.size (fun k => (k ≠ g2 ∧ k ≠ g4) ∧ some k ≠ v.ownBlock) U fs
  fun_ : RF w w0.heap.size (fun k => k ≠ g2 ∧ k ≠ g4) v f
namespace RS
variable {w0 w w1 : World} {g2 g4 : Nat} {fu de fl : Int} {U v v1 : Value} {fs : List (List S26)} {f f1 : List S26}
theorem old (h : RS w0 g2 g4 fu de fl w U v fs f) (hb : Below w.heap.size w w1) : RS w0 g2 g4 fu de fl w1 U v fs f :=
  ⟨below_step h.below hb, blk_below h.res hb, blk_below h.prog hb, Kd.R_below h.funs hb, Kd.R_below h.fun_ hb⟩
theorem app (h : RS w0 g2 g4 fu de fl w U v fs f) (hg : w.grownBy w1 v.ownBlock) (hat : v1.ownBlock = v.ownBlock ∨ ∃ b, v1.ownBlock = some b ∧ w.heap.size ≤ b) (hB : Below w0.heap.size w0 w1)
    (hR : RF w1 w0.heap.size (fun k => k ≠ g2 ∧ k ≠ g4) v1 f1) : RS w0 g2 g4 fu de fl w1 U v1 fs f1 := by
  have hne : ∀ k, v.ownBlock = some k → k ≠ g2 ∧ k ≠ g4 := h.fun_.1
  exact ⟨hB, (hg.block g2 (blk_lt h.res) (fun he => (hne g2 he.symm).1 rfl)).trans h.res, (hg.block g4 (blk_lt h.prog) (fun he => (hne g4 he.symm).2 rfl)).trans h.prog, Kd.R_after h.funs hg hat, hR⟩
theorem next {U1 : Value} {fs1 : List (List S26)} (h : RS w0 g2 g4 fu de fl w U v fs f) (hg : w.grownBy w1 U.ownBlock) (hB : Below w0.heap.size w0 w1) (hn : g2 ≠ g4 ∧ w0.heap.size ≤ g4)
    (hR : RP w1 w0.heap.size (fun k => k ≠ g2 ∧ k ≠ g4) U1 fs1) : RS w0 g2 g4 fu de fl (w1.setCell ⟨g4, 0, none⟩ U1) U1 (.slice none 0 0) fs1 [] := by
  have hne : ∀ k, U.ownBlock = some k → (k ≠ g2 ∧ k ≠ g4) := fun k hk => (h.funs.1 k hk).1
  exact ⟨hB.setCell hn.2 U1,
    (Below.heap_setCell w1 ⟨g4, 0, none⟩ U1 g2 hn.1).trans ((hg.block g2 (blk_lt h.res) (fun he => (hne g2 he.symm).1 rfl)).trans h.res),
    blk_put ((hg.block g4 (blk_lt h.prog) (fun he => (hne g4 he.symm).2 rfl)).trans h.prog) 0 U1 rfl,
    Kd.R_mono (Kd.R_far hR (fun k hk => hk.2) U1) (fun k hk => ⟨hk, by simp [Value.ownBlock]⟩), Kd.R_nil _ _ _ _ _⟩
theorem fresh (h : RS w0 g2 g4 fu de fl w U v fs f) : ∀ k, w.heap.size ≤ k → k ≠ g2 ∧ k ≠ g4 := by
  intro k hk
  have h2 := blk_lt h.res
  have h3 := blk_lt h.prog
  omega
end RS
theorem wrap_b {b : Nat} (h : b < 256) : wrap64 (b : Int) = b := wrap64_id _ (by omega)
theorem wrap_256 {b : Nat} (h : b < 256) : wrap64 ((b : Int) * 256) = (b : Int) * 256 := wrap64_id _ (by omega)
theorem pg_eq {p : PG} {fs : List (List S26)} {fu de fl : Int} (h0 : p.fs = fs) (h1 : p.fu = fu) (h2 : p.de = de) (h3 : p.fl = fl) : p = ⟨fs, fu, de, fl⟩ := by
  cases p
  subst h0
  subst h1
  subst h2
  subst h3
  rfl
theorem wa1 {a : Nat} (h : a ≤ 3000) : wrap64 ((a : Int) + 1) = (a : Int) + 1 := wrap64_id _ (by omega)
theorem wa2 {a : Nat} (h : a ≤ 3000) : wrap64 ((a : Int) + 2) = (a : Int) + 2 := wrap64_id _ (by omega)
theorem wa3 {a : Nat} (h : a ≤ 3000) : wrap64 ((a : Int) + 3) = (a : Int) + 3 := wrap64_id _ (by omega)
theorem wa4 {a : Nat} (h : a ≤ 3000) : wrap64 ((a : Int) + 4) = (a : Int) + 4 := wrap64_id _ (by omega)
theorem wa41 {a : Nat} (h : a ≤ 3000) : wrap64 ((a : Int) + 4 + 1) = (a : Int) + 4 + 1 := wrap64_id _ (by omega)
theorem wa42 {a : Nat} (h : a ≤ 3000) : wrap64 ((a : Int) + 4 + 2) = (a : Int) + 4 + 2 := wrap64_id _ (by omega)
theorem drop_short {l : List UInt8} {a : Nat} (h : ¬ a + 4 ≤ (bs l).size) : (l.drop a).length < 4 := by
  rw [bs_size] at h
  rw [List.length_drop]
  omega
theorem no_four {l : List UInt8} {a : Nat} (h : ¬ a + 4 ≤ (bs l).size) : decide ((a : Int) + 4 ≤ ((bs l).size : Int)) = false := decide_eq_false (by omega)
theorem yes_four {l : List UInt8} {a : Nat} (h : a + 4 ≤ (bs l).size) : decide ((a : Int) + 4 ≤ ((bs l).size : Int)) = true := decide_eq_true (by omega)
theorem no_six {l : List UInt8} {a : Nat} (h : ¬ a + 6 ≤ (bs l).size) : decide ((a : Int) + 4 + 2 ≤ ((bs l).size : Int)) = false := decide_eq_false (by omega)
theorem yes_six {l : List UInt8} {a : Nat} (h : a + 6 ≤ (bs l).size) : decide ((a : Int) + 4 + 2 ≤ ((bs l).size : Int)) = true := decide_eq_true (by omega)
theorem at4 {l : List UInt8} {a : Nat} (h : a + 4 ≤ l.length) : ∃ b0 b1 b2 b3 : Nat, (l[a]'(by omega)).toNat = b0 ∧ (l[a + 1]'(by omega)).toNat = b1 ∧ (l[a + 2]'(by omega)).toNat = b2 ∧ (l[a + 3]'(by omega)).toNat = b3 ∧ (b0 < 256 ∧ b1 < 256 ∧ b2 < 256 ∧ b3 < 256) ∧
    (∀ W : World, (Instr.index 9 (.string (bs l)) (.int .i64 (a : Int))).run Try.prog W = .ok (.int .u8 b0) W) ∧ (∀ W : World, (Instr.index 9 (.string (bs l)) (.int .i64 ((a : Int) + 1))).run Try.prog W = .ok (.int .u8 b1) W) ∧
    (∀ W : World, (Instr.index 9 (.string (bs l)) (.int .i64 ((a : Int) + 2))).run Try.prog W = .ok (.int .u8 b2) W) ∧ (∀ W : World, (Instr.index 9 (.string (bs l)) (.int .i64 ((a : Int) + 3))).run Try.prog W = .ok (.int .u8 b3) W) :=
  ⟨_, _, _, _, rfl, rfl, rfl, rfl, ⟨UInt8.toNat_lt _, UInt8.toNat_lt _, UInt8.toNat_lt _, UInt8.toNat_lt _⟩, idx9 l _ a _ rfl (by omega) rfl, idx9 l _ (a + 1) _ (by omega) (by omega) rfl, idx9 l _ (a + 2) _ (by omega) (by omega) rfl, idx9 l _ (a + 3) _ (by omega) (by omega) rfl⟩
theorem at6 {l : List UInt8} {a : Nat} (h : a + 6 ≤ l.length) : ∃ b4 b5 : Nat, (l[a + 4]'(by omega)).toNat = b4 ∧ (l[a + 4 + 1]'(by omega)).toNat = b5 ∧ (b4 < 256 ∧ b5 < 256) ∧
    (∀ W : World, (Instr.index 9 (.string (bs l)) (.int .i64 ((a : Int) + 4))).run Try.prog W = .ok (.int .u8 b4) W) ∧ (∀ W : World, (Instr.index 9 (.string (bs l)) (.int .i64 ((a : Int) + 4 + 1))).run Try.prog W = .ok (.int .u8 b5) W) :=
  ⟨_, _, rfl, rfl, ⟨UInt8.toNat_lt _, UInt8.toNat_lt _⟩, idx9 l _ (a + 4) _ (by omega) (by omega) rfl, idx9 l _ (a + 4 + 1) _ (by omega) (by omega) rfl⟩
theorem or_8 {b c : Nat} (hb : b < 256) (hc : c < 256) : Go.bits .or .i64 ((b : Int) * 256) (c : Int) = (b : Int) * 256 + c :=
  Go.bits_join .i64 40 (by decide) (fun n h1 h2 => by rw [IntKind.wrap_i64]; omega) 8 _ _ (by omega) (by show (b : Int) * 256 % 256 = 0; omega) (by show (b : Int) * 256 < 1099511627776; omega) (by omega) (by show (c : Int) < 256; omega) (by show (c : Int) < 1099511627776; omega)
theorem or_24 {b c : Nat} (hb : b < 256) (hc : c < 256) : Go.bits .or .i64 ((b : Int) * 16777216) ((c : Int) * 65536) = (b : Int) * 16777216 + c * 65536 :=
  Go.bits_join .i64 40 (by decide) (fun n h1 h2 => by rw [IntKind.wrap_i64]; omega) 24 _ _ (by omega) (by show (b : Int) * 16777216 % 16777216 = 0; omega) (by show (b : Int) * 16777216 < 1099511627776; omega) (by omega) (by show (c : Int) * 65536 < 16777216; omega) (by show (c : Int) * 65536 < 1099511627776; omega)
theorem or_16 {b c d : Nat} (hb : b < 256) (hc : c < 256) (hd : d < 256) : Go.bits .or .i64 ((b : Int) * 16777216 + (c : Int) * 65536) ((d : Int) * 256) = (b : Int) * 16777216 + c * 65536 + d * 256 :=
  Go.bits_join .i64 40 (by decide) (fun n h1 h2 => by rw [IntKind.wrap_i64]; omega) 16 _ _ (by omega) (by show ((b : Int) * 16777216 + (c : Int) * 65536) % 65536 = 0; omega) (by show (b : Int) * 16777216 + (c : Int) * 65536 < 1099511627776; omega) (by omega) (by show (d : Int) * 256 < 65536; omega) (by show (d : Int) * 256 < 1099511627776; omega)
theorem or_0 {b c d e : Nat} (hb : b < 256) (hc : c < 256) (hd : d < 256) (he : e < 256) : Go.bits .or .i64 ((b : Int) * 16777216 + (c : Int) * 65536 + (d : Int) * 256) (e : Int) = (b : Int) * 16777216 + c * 65536 + d * 256 + e :=
  Go.bits_join .i64 40 (by decide) (fun n h1 h2 => by rw [IntKind.wrap_i64]; omega) 8 _ _ (by omega) (by show ((b : Int) * 16777216 + (c : Int) * 65536 + (d : Int) * 256) % 256 = 0; omega) (by show (b : Int) * 16777216 + (c : Int) * 65536 + (d : Int) * 256 < 1099511627776; omega) (by omega) (by show (e : Int) < 256; omega) (by show (e : Int) < 1099511627776; omega)
theorem short_no {l : List UInt8} (h : l.length < 8) : ¬ GetOk l := by
  intro hk
  have := congrArg List.length hk.2
  rw [encB, List.length_map, putB_size] at this
  omega


theorem sum_range {b2 b3 b4 b5 : Nat} (h2 : b2 < 256) (h3 : b3 < 256) (h4 : b4 < 256) (h5 : b5 < 256) : ∃ V : Int, ((b2 : Int) * 16777216 + (b3 : Int) * 65536 + (b4 : Int) * 256) + (b5 : Int) = V ∧ 0 ≤ V ∧ V < 4294967296 := ⟨_, rfl, by omega, by omega⟩
theorem wrap_m24 {b : Nat} (h : b < 256) : wrap64 ((b : Int) * 16777216) = (b : Int) * 16777216 := wrap64_id _ (by omega)
theorem wrap_m16 {b : Nat} (h : b < 256) : wrap64 ((b : Int) * 65536) = (b : Int) * 65536 := wrap64_id _ (by omega)
theorem num_six {a : Nat} : Value.int .i64 ((a : Int) + 4 + 2) = Value.int .i64 ((a + 6 : Nat) : Int) := by
  rw [show ((a + 6 : Nat) : Int) = (a : Int) + 4 + 2 by omega]
theorem rstep {n j a A2 : Nat} {l : List UInt8} {f F : List S26} {R : List UInt8} {x : S26} (hj : j < n) (h4 : a + 4 ≤ l.length) (hx : rIns (l.drop a) = (x, l.drop A2))
    (h : f ++ (rFun (n - j) (l.drop a)).1 = F ∧ (rFun (n - j) (l.drop a)).2 = R) : f ++ [x] ++ (rFun (n - (j + 1)) (l.drop A2)).1 = F ∧ (rFun (n - (j + 1)) (l.drop A2)).2 = R := by
  have e : n - j = (n - (j + 1)) + 1 := by omega
  rw [e, rFun_go _ _ (by rw [List.length_drop]; omega), hx] at h
  rw [List.append_assoc]
  exact h
theorem len_snoc {α : Type} {f : List α} {x : α} {j : Nat} (h : f.length ≤ j) : (f ++ [x]).length ≤ j + 1 := by
  rw [List.length_append, List.length_singleton]
  omega


theorem get_of' {l : List UInt8} (h : GetOk l) : errOf (getP l) = 0 ∧ encB (getP l) = l := by
  rw [(getP_ok h).1]
  exact h
set_option maxRecDepth 100000 in
set_option maxHeartbeats 4000000 in
theorem RGet_calls (l : List UInt8) (w : World) (hl : l.length ≤ 3000) :
    Calls Try.prog 20 #[.string (bs l)] w fun e w' => ∃ U, e = .returned (.tuple #[.agg #[U, .int .i64 (getP l).fu, .int .i64 (getP l).de, .int .i64 (getP l).fl], .int .i64 (getE l)]) ∧ RP w' w.heap.size (fun _ => True) U (getP l).fs ∧ Below w.heap.size w w' := by
  have HL3 := Aside0.mk hl
  clear hl
  have S0 := Aside0.mk (heap_alloc_new w (.cells #[.slice none 0 0, .int .i64 0, .int .i64 0, .int .i64 0] 33))
  have HB0 := Aside0.mk (below_alloc (Below.refl w.heap.size w) (.cells #[.slice none 0 0, .int .i64 0, .int .i64 0, .int .i64 0] 33))
  by_cases h8 : 8 ≤ l.length
  case neg =>
    have h8' : decide (((bs l).size : Int) < 8) = true := decide_eq_true (by rw [bs_size]; omega)
    have NO := Aside0.mk (getP_no (l := l) (short_no (by omega)))
    go_enter Try.func20, Try.ntmps20
    go_wp2_with (fail)
    refine bodyPost_ret (results_ct rfl _ _ w.heap.size 33 #[.slice none 0 0, .int .i64 0, .int .i64 0, .int .i64 0] (0, 0) _ rfl S0.out Try.underlying33 rfl info33) rfl ?_
    rw [NO.out.1, NO.out.2]
    exact ⟨_, rfl, Kd.R_nil _ _ _ _ _, HB0.out⟩
  have h8' : decide (((bs l).size : Int) < 8) = false := decide_eq_false (by rw [bs_size]; omega)
  obtain ⟨b3, hb3⟩ : ∃ b, (l[3]'(by omega)).toNat = b := ⟨_, rfl⟩
  obtain ⟨b4, hb4⟩ : ∃ b, (l[4]'(by omega)).toNat = b := ⟨_, rfl⟩
  obtain ⟨b5, hb5⟩ : ∃ b, (l[5]'(by omega)).toNat = b := ⟨_, rfl⟩
  obtain ⟨b6, hb6⟩ : ∃ b, (l[6]'(by omega)).toNat = b := ⟨_, rfl⟩
  obtain ⟨N, hb7⟩ : ∃ b, (l[7]'(by omega)).toNat = b := ⟨_, rfl⟩
  have x3 := idx9 l 3 3 b3 rfl (by omega) hb3
  have x4 := idx9 l 4 4 b4 rfl (by omega) hb4
  have x5 := idx9 l 5 5 b5 rfl (by omega) hb5
  have x6 := idx9 l 6 6 b6 rfl (by omega) hb6
  have x7 := idx9 l 7 7 N rfl (by omega) hb7
  have X7 := Aside0.mk x7
  have c3 : b3 < 256 := by rw [← hb3]; exact UInt8.toNat_lt _
  have c4 : b4 < 256 := by rw [← hb4]; exact UInt8.toNat_lt _
  have c5 : b5 < 256 := by rw [← hb5]; exact UInt8.toNat_lt _
  have c6 : b6 < 256 := by rw [← hb6]; exact UInt8.toNat_lt _
  have c7 : N < 256 := by rw [← hb7]; exact UInt8.toNat_lt _
  obtain ⟨FS, hFS⟩ : ∃ FS, rFuns N (l.drop 8) = FS := ⟨_, rfl⟩
  have HFS := Aside0.mk hFS
  obtain ⟨fl, hfl⟩ : ∃ fl, (b5 : Int) * 256 + b6 = fl := ⟨_, rfl⟩
  have HDEC := Aside0.mk (fun hk : GetOk l => show getP l = ⟨FS, (b3 : Int), (b4 : Int), fl⟩ by
    obtain ⟨y0, y1, y2, y3, y4, y5, y6, y7, r, e, f1, f2, f3, f4⟩ := rdec_enc (get_of' hk).1 (get_of' hk).2
    subst e
    have g3 : y3.toNat = b3 := hb3
    have g4 : y4.toNat = b4 := hb4
    have g5 : y5.toNat = b5 := hb5
    have g6 : y6.toNat = b6 := hb6
    have g7 : y7.toNat = N := hb7
    have gF : rFuns N r = FS := hFS
    rw [g3] at f1
    rw [g4] at f2
    rw [g5, g6] at f3
    rw [g7, gF] at f4
    rw [hfl] at f3
    exact pg_eq f4.symm f1.symm f2.symm f3.symm)
  have e3 := wrap_b c3
  have e4 := wrap_b c4
  have e5 := wrap_b c5
  have e6 := wrap_b c6
  have e7 := wrap_256 c5
  have e8 := or_8 c5 c6
  rw [hfl] at e8
  clear hb3 hb4 hb5 hb6 hb7 hFS
  have HC7 := Aside0.mk c7
  go_enter Try.func20, Try.ntmps20
  go_wp2_with (fail)
  refine canon [.pure 0, .pure 1, .pure 2, .pure 3, .pure 4, .pure 5, .pure 6, .pure 7, .pure 8, .pure 9, .pure 10, .pure 11, .pure 12, .pure 13, .pure 14, .eff 15, .eff 16] [] (fun _ => True) (by kernel_rfl) rfl rfl (by kernel_rfl) (by intro c d v a w h; cases d <;> exact h) ?_
  intro w1 hb1 _
  have S1 := Aside0.mk (blk_below S0.out hb1)
  have HB1 := Aside0.mk (below_step HB0.out hb1)
  clear S0 HB0 hb1
  repeat (first | (refine c_pure rfl rfl (by rfl) (v := ?_) ?_ (a' := ?_) ?_ ?_; rotate_left; (focus (intro w'; go_simp; with_reducible rfl)); rotate_left; (focus ((try simp only [Act.put, List.setIfInBounds_toArray, List.set_cons_zero, List.set_cons_succ, i64_w, i32_w]); rfl))) | (refine c_off rfl rfl (by rfl) (a' := ?_) ?_ ?_; rotate_left; (focus ((try simp only [Act.put, List.setIfInBounds_toArray, List.set_cons_zero, List.set_cons_succ, i64_w, i32_w]); rfl))))
  refine c_eff rfl (fun K hK => ?_)
  go_simp
  refine hK _ _ (fun _ => trivial) ?_
  clear hK K
  (refine c_norm (a' := ?_) ?_ ?_; rotate_left; (focus ((try simp only [Act.put, List.setIfInBounds_toArray, List.set_cons_zero, List.set_cons_succ, i64_w, i32_w]); rfl)))
  refine c_eff rfl (fun K hK => ?_)
  rw [if_pos (by rfl)]
  refine wp_store_row 33 (.tmp 4) (.tmp 32) rfl w1.heap.size #[.slice none 0 0, .int .i64 (b3 : Int), .int .i64 (b4 : Int), .int .i64 fl] rfl rfl 33 _ (heap_alloc_new w1 _) info33 rfl (by simp [Value.oneCell']) ?_
  refine hK _ _ (fun _ => trivial) ?_
  clear hK K
  have P0 : RS w w.heap.size w1.heap.size (b3 : Int) (b4 : Int) fl ((w1.alloc (.cells #[.slice none 0 0, .int .i64 0, .int .i64 0, .int .i64 0] 33)).setRow w1.heap.size #[.slice none 0 0, .int .i64 (b3 : Int), .int .i64 (b4 : Int), .int .i64 fl]) (.slice none 0 0) (.slice none 0 0) [] [] :=
    ⟨below_setRow (below_alloc HB1.out _) HB1.out.size _, (setRow_other _ _ _ _ (by have := blk_lt S1.out; omega)).trans (blk_alloc S1.out _), setRow_heap _ _ _ _ 33 (0, 0) (heap_alloc_new w1 _), Kd.R_nil _ _ _ _ _, Kd.R_nil _ _ _ _ _⟩
  replace P0 := Aside0.mk P0
  have HGB := Aside0.mk (blk_lt S1.out)
  revert P0 HGB
  generalize (w1.alloc (.cells #[.slice none 0 0, .int .i64 0, .int .i64 0, .int .i64 0] 33)).setRow w1.heap.size #[.slice none 0 0, .int .i64 (b3 : Int), .int .i64 (b4 : Int), .int .i64 fl] = w2
  generalize w1.heap.size = g4
  intro P0 HGB
  have H8 := Aside0.mk h8
  clear S1 HB1 hfl e3 e4 e5 e6 e7 e8 x3 x4 x5 x6 c3 c4 c5 c6 h8
  revert P0 HDEC
  generalize (b3 : Int) = fu
  generalize (b4 : Int) = de
  intro HDEC P0
  (refine c_norm (a' := ?_) ?_ ?_; rotate_left; (focus ((try simp only [Act.put, List.setIfInBounds_toArray, List.set_cons_zero, List.set_cons_succ, i64_w, i32_w]); rfl)))
  refine c_done ?_
  clear x7
  go_wp2_with (fail)
  have x7 := X7.out
  go_loopw [5, 6] (fun u5 u6 w' => ∃ (a i : Nat) (U : Value) (fs : List (List S26)), u5 = .int .i64 a ∧ u6 = .int .i64 i ∧ fs.length ≤ i ∧ i ≤ N ∧ a ≤ l.length ∧ Aside0 (fs ++ rFuns (N - i) (l.drop a) = FS) ∧ Aside0 (RS w w.heap.size g4 fu de fl w' U (.slice none 0 0) fs [])) (fun _ u6 _ => N - (intOf u6).toNat)
  case atStart => exact ⟨8, 0, _, [], rfl, rfl, by simp, Nat.zero_le _, H8.out, HFS, P0⟩
  case round =>
    obtain ⟨a, i, U, fs, rfl, rfl, hfs, hi, ha, HK, HP⟩ := hrel
    clear P0
    by_cases hin : i < N
    case neg =>
      have HEQ := Aside0.mk (show fs = FS by have h := HK.out; rw [rFuns_stop _ _ (.inl (by omega)), List.append_nil] at h; exact h)
      clear HK hi hfs ha
      obtain ⟨A9, c9, h9⟩ := Kd.R_slice HP.out.funs
      subst h9
      obtain ⟨p0, p1, p2, p3⟩ := ps_reads HP.out.prog
      go_wp2_with (fail)
      refine (RPut_calls ⟨fs, fu, de, fl⟩ A9 c9 _ (Kd.R_reads' HP.out.funs).2.2).mono ?_
      rintro e w9 ⟨rfl, hb9⟩
      have S9 := Aside0.mk (blk_below HP.out.res hb9)
      have G9 := Aside0.mk (blk_below HP.out.prog hb9)
      have R9 := Aside0.mk (Kd.R_below HP.out.funs hb9)
      have HB9 := Aside0.mk (below_step HP.out.below hb9)
      have HD := Aside0.mk (fun hk => show getP l = ⟨fs, fu, de, fl⟩ by rw [HDEC.out hk, HEQ.out])
      clear p0 p1 p2 p3 hb9 HP
      obtain ⟨p0, p1, p2, p3⟩ := ps_reads G9.out
      obtain ⟨_, q0, q1, q2, q3⟩ := row4' S9.out
      by_cases h0 : errOf ⟨fs, fu, de, fl⟩ = 0
      · rw [if_pos h0, h0, str_enc]
        by_cases hs : encB ⟨fs, fu, de, fl⟩ = l
        · rw [hs]
          have OK := Aside0.mk (rget_ok h0 hs)
          clear h0 hs
          have hse : ((bs l).toList != (bs l).toList) = false := bne_self_eq_false _
          go_wp2_with (fail)
          have SX := Aside0.mk (blk_put (blk_put (blk_put (blk_put S9.out 0 (.slice A9 fs.length c9) rfl) 1 (.int .i64 fu) rfl) 2 (.int .i64 de) rfl) 3 (.int .i64 fl) (cs' := #[.slice A9 fs.length c9, .int .i64 fu, .int .i64 de, .int .i64 fl]) rfl)
          refine bodyPost_ret (results_ct rfl _ _ w.heap.size 33 #[.slice A9 fs.length c9, .int .i64 fu, .int .i64 de, .int .i64 fl] (0, 0) _ rfl SX.out Try.underlying33 rfl info33) rfl ?_
          rw [OK.out.1, OK.out.2]
          exact ⟨_, rfl, Kd.R_mono (Kd.R_far (Kd.R_far (Kd.R_far (Kd.R_far R9.out (fun k hk => hk.1.1) _) (fun k hk => hk.1.1) _) (fun k hk => hk.1.1) _) (fun k hk => hk.1.1) _) (fun _ _ => trivial), (((HB9.out.setCell (Nat.le_refl _) _).setCell (Nat.le_refl _) _).setCell (Nat.le_refl _) _).setCell (Nat.le_refl _) _⟩
        · have NO := Aside0.mk (getP_no (l := l) (fun h => hs (by rw [← HD.out h]; exact (get_of' h).2)))
          have hne := bs_ne hs
          obtain ⟨s, hse⟩ : ∃ s, bs (encB ⟨fs, fu, de, fl⟩) = s := ⟨_, rfl⟩
          rw [hse] at hne
          rw [hse]
          have hsn : (s.toList == (bs l).toList) = false := beq_eq_false_iff_ne.mpr (fun he => hne (str_eq he))
          clear h0 hs hse hne
          go_wp2_with (fail)
          have SX := Aside0.mk (blk_put (blk_put (blk_put (blk_put S9.out 0 (.slice none 0 0) rfl) 1 (.int .i64 0) rfl) 2 (.int .i64 0) rfl) 3 (.int .i64 0) (cs' := #[.slice none 0 0, .int .i64 0, .int .i64 0, .int .i64 0]) rfl)
          refine bodyPost_ret (results_ct rfl _ _ w.heap.size 33 #[.slice none 0 0, .int .i64 0, .int .i64 0, .int .i64 0] (0, 0) _ rfl SX.out Try.underlying33 rfl info33) rfl ?_
          rw [NO.out.1, NO.out.2]
          exact ⟨_, rfl, Kd.R_nil _ _ _ _ _, (((HB9.out.setCell (Nat.le_refl _) _).setCell (Nat.le_refl _) _).setCell (Nat.le_refl _) _).setCell (Nat.le_refl _) _⟩
      · have NO := Aside0.mk (getP_no (l := l) (fun h => h0 (by rw [← HD.out h]; exact (get_of' h).1)))
        rw [if_neg h0]
        obtain ⟨er, her⟩ : ∃ er, errOf ⟨fs, fu, de, fl⟩ = er := ⟨_, rfl⟩
        rw [her] at h0
        rw [her]
        have t0 : (er != 0) = true := bne_iff_ne.mpr h0
        clear h0 her
        go_wp2_with (fail)
        have SX := Aside0.mk (blk_put (blk_put (blk_put (blk_put S9.out 0 (.slice none 0 0) rfl) 1 (.int .i64 0) rfl) 2 (.int .i64 0) rfl) 3 (.int .i64 0) (cs' := #[.slice none 0 0, .int .i64 0, .int .i64 0, .int .i64 0]) rfl)
        refine bodyPost_ret (results_ct rfl _ _ w.heap.size 33 #[.slice none 0 0, .int .i64 0, .int .i64 0, .int .i64 0] (0, 0) _ rfl SX.out Try.underlying33 rfl info33) rfl ?_
        rw [NO.out.1, NO.out.2]
        exact ⟨_, rfl, Kd.R_nil _ _ _ _ _, (((HB9.out.setCell (Nat.le_refl _) _).setCell (Nat.le_refl _) _).setCell (Nat.le_refl _) _).setCell (Nat.le_refl _) _⟩
    by_cases hal : a < (bs l).size
    case neg =>
      have HEQ := Aside0.mk (show fs = FS by have h := HK.out; rw [rFuns_stop _ _ (.inr (List.drop_eq_nil_of_le (by rw [bs_size] at hal; omega))), List.append_nil] at h; exact h)
      clear HK hi hfs ha
      obtain ⟨A9, c9, h9⟩ := Kd.R_slice HP.out.funs
      subst h9
      obtain ⟨p0, p1, p2, p3⟩ := ps_reads HP.out.prog
      go_wp2_with (fail)
      refine (RPut_calls ⟨fs, fu, de, fl⟩ A9 c9 _ (Kd.R_reads' HP.out.funs).2.2).mono ?_
      rintro e w9 ⟨rfl, hb9⟩
      have S9 := Aside0.mk (blk_below HP.out.res hb9)
      have G9 := Aside0.mk (blk_below HP.out.prog hb9)
      have R9 := Aside0.mk (Kd.R_below HP.out.funs hb9)
      have HB9 := Aside0.mk (below_step HP.out.below hb9)
      have HD := Aside0.mk (fun hk => show getP l = ⟨fs, fu, de, fl⟩ by rw [HDEC.out hk, HEQ.out])
      clear p0 p1 p2 p3 hb9 HP
      obtain ⟨p0, p1, p2, p3⟩ := ps_reads G9.out
      obtain ⟨_, q0, q1, q2, q3⟩ := row4' S9.out
      by_cases h0 : errOf ⟨fs, fu, de, fl⟩ = 0
      · rw [if_pos h0, h0, str_enc]
        by_cases hs : encB ⟨fs, fu, de, fl⟩ = l
        · rw [hs]
          have OK := Aside0.mk (rget_ok h0 hs)
          clear h0 hs
          have hse : ((bs l).toList != (bs l).toList) = false := bne_self_eq_false _
          go_wp2_with (fail)
          have SX := Aside0.mk (blk_put (blk_put (blk_put (blk_put S9.out 0 (.slice A9 fs.length c9) rfl) 1 (.int .i64 fu) rfl) 2 (.int .i64 de) rfl) 3 (.int .i64 fl) (cs' := #[.slice A9 fs.length c9, .int .i64 fu, .int .i64 de, .int .i64 fl]) rfl)
          refine bodyPost_ret (results_ct rfl _ _ w.heap.size 33 #[.slice A9 fs.length c9, .int .i64 fu, .int .i64 de, .int .i64 fl] (0, 0) _ rfl SX.out Try.underlying33 rfl info33) rfl ?_
          rw [OK.out.1, OK.out.2]
          exact ⟨_, rfl, Kd.R_mono (Kd.R_far (Kd.R_far (Kd.R_far (Kd.R_far R9.out (fun k hk => hk.1.1) _) (fun k hk => hk.1.1) _) (fun k hk => hk.1.1) _) (fun k hk => hk.1.1) _) (fun _ _ => trivial), (((HB9.out.setCell (Nat.le_refl _) _).setCell (Nat.le_refl _) _).setCell (Nat.le_refl _) _).setCell (Nat.le_refl _) _⟩
        · have NO := Aside0.mk (getP_no (l := l) (fun h => hs (by rw [← HD.out h]; exact (get_of' h).2)))
          have hne := bs_ne hs
          obtain ⟨s, hse⟩ : ∃ s, bs (encB ⟨fs, fu, de, fl⟩) = s := ⟨_, rfl⟩
          rw [hse] at hne
          rw [hse]
          have hsn : (s.toList == (bs l).toList) = false := beq_eq_false_iff_ne.mpr (fun he => hne (str_eq he))
          clear h0 hs hse hne
          go_wp2_with (fail)
          have SX := Aside0.mk (blk_put (blk_put (blk_put (blk_put S9.out 0 (.slice none 0 0) rfl) 1 (.int .i64 0) rfl) 2 (.int .i64 0) rfl) 3 (.int .i64 0) (cs' := #[.slice none 0 0, .int .i64 0, .int .i64 0, .int .i64 0]) rfl)
          refine bodyPost_ret (results_ct rfl _ _ w.heap.size 33 #[.slice none 0 0, .int .i64 0, .int .i64 0, .int .i64 0] (0, 0) _ rfl SX.out Try.underlying33 rfl info33) rfl ?_
          rw [NO.out.1, NO.out.2]
          exact ⟨_, rfl, Kd.R_nil _ _ _ _ _, (((HB9.out.setCell (Nat.le_refl _) _).setCell (Nat.le_refl _) _).setCell (Nat.le_refl _) _).setCell (Nat.le_refl _) _⟩
      · have NO := Aside0.mk (getP_no (l := l) (fun h => h0 (by rw [← HD.out h]; exact (get_of' h).1)))
        rw [if_neg h0]
        obtain ⟨er, her⟩ : ∃ er, errOf ⟨fs, fu, de, fl⟩ = er := ⟨_, rfl⟩
        rw [her] at h0
        rw [her]
        have t0 : (er != 0) = true := bne_iff_ne.mpr h0
        clear h0 her
        go_wp2_with (fail)
        have SX := Aside0.mk (blk_put (blk_put (blk_put (blk_put S9.out 0 (.slice none 0 0) rfl) 1 (.int .i64 0) rfl) 2 (.int .i64 0) rfl) 3 (.int .i64 0) (cs' := #[.slice none 0 0, .int .i64 0, .int .i64 0, .int .i64 0]) rfl)
        refine bodyPost_ret (results_ct rfl _ _ w.heap.size 33 #[.slice none 0 0, .int .i64 0, .int .i64 0, .int .i64 0] (0, 0) _ rfl SX.out Try.underlying33 rfl info33) rfl ?_
        rw [NO.out.1, NO.out.2]
        exact ⟨_, rfl, Kd.R_nil _ _ _ _ _, (((HB9.out.setCell (Nat.le_refl _) _).setCell (Nat.le_refl _) _).setCell (Nat.le_refl _) _).setCell (Nat.le_refl _) _⟩
    have hal2 : a < l.length := hal
    obtain ⟨n, hn⟩ : ∃ b, (l[a]'hal2).toNat = b := ⟨_, rfl⟩
    have hn6 : n < 256 := by rw [← hn]; exact UInt8.toNat_lt _
    have xa := idx9 l (a : Int) a n rfl hal2 hn
    obtain ⟨F, hF⟩ : ∃ x, (rFun n (l.drop (a + 1))).1 = x := ⟨_, rfl⟩
    obtain ⟨R, hR⟩ : ∃ x, (rFun n (l.drop (a + 1))).2 = x := ⟨_, rfl⟩
    have HST := Aside0.mk (show fs ++ [F] ++ rFuns (N - (i + 1)) R = FS by
      have h := HK.out
      rw [show N - i = (N - (i + 1)) + 1 by omega, rFuns_go _ _ _ hal2, hn, hF, hR] at h
      rw [List.append_assoc]
      exact h)
    have HF := Aside0.mk hF
    have HR := Aside0.mk hR
    have HWI := Aside0.mk (show wrap64 ((i : Int) + 1) = (i : Int) + 1 from wrap64_id _ (by omega))
    have hna : a + 1 ≤ l.length := hal2
    have HO := Aside0.mk (⟨hfs, hin, by omega⟩ : fs.length ≤ i ∧ i < N ∧ i ≤ 255)
    have HNA := Aside0.mk hna
    have HN6 := Aside0.mk hn6
    have hid : decide (i < N) = true := decide_eq_true hin
    have hid2 : decide ((i : Int) < (N : Int)) = true := decide_eq_true (Int.ofNat_lt.2 hin)
    have had : decide (a < (bs l).size) = true := decide_eq_true hal
    have had2 : decide ((a : Int) < ((bs l).size : Int)) = true := decide_eq_true (Int.ofNat_lt.2 hal)
    have ha3 : a ≤ 3000 := Nat.le_trans ha HL3.out
    have hi5 : i ≤ 255 := HO.out.2.2
    clear hF hR HK hn hna hfs hi ha hin hal2 hal
    go_wp2_with (fail)
    clear xa hid hid2 had had2 ha3
    go_loopw [5, 7, 9] (fun u5 u7 u9 w' => ∃ (a2 j : Nat) (f : List S26), u5 = .int .i64 a2 ∧ u9 = .int .i64 j ∧ Aside0 (f.length ≤ j ∧ j ≤ n ∧ a2 ≤ l.length) ∧ Aside0 (f ++ (rFun (n - j) (l.drop a2)).1 = F ∧ (rFun (n - j) (l.drop a2)).2 = R) ∧ Aside0 (RS w w.heap.size g4 fu de fl w' U u7 fs f)) (fun _ _ u9 _ => n - (intOf u9).toNat)
    case atStart => exact ⟨a + 1, 0, [], rfl, rfl, ⟨by simp, Nat.zero_le _, HNA.out⟩, ⟨HF.out, HR.out⟩, HP⟩
    case round =>
      obtain ⟨a2, j, f, rfl, rfl, HI, HJ, HQ⟩ := hrel
      clear HP
      by_cases hjn : j < n
      case neg =>
        have HEQ := Aside0.mk (show f = F ∧ l.drop a2 = R by have h := HJ.out; rw [rFun_stop _ _ (.inl (by omega)), List.append_nil] at h; exact h)
        have hjd : decide (j < n) = false := decide_eq_false hjn
        have hjd2 : decide ((j : Int) < (n : Int)) = false := decide_eq_false (fun h => hjn (Int.ofNat_lt.1 h))
        clear HJ hjn
        have hfs5 := Nat.le_trans HO.out.1 HO.out.2.2
        obtain ⟨A8, c8, h8⟩ := Kd.R_slice HQ.out.fun_
        subst h8
        obtain ⟨p0, p1, p2, p3⟩ := ps_reads HQ.out.prog
        go_wp2_with (at_builtin; refine Kd.R_append (Kd.slice 26 k26) (w0 := w) w.heap.size rfl (.tmp 129) (.tmp 131) 31 38 (.slice none 0 0) 24 rfl Try.underlying31 info38z rfl (by decide) (by decide) U fs f [.slice A8 f.length c8] (fun k => k ≠ w.heap.size ∧ k ≠ g4) (fun k => (k ≠ w.heap.size ∧ k ≠ g4) ∧ some k ≠ U.ownBlock) rfl rfl ⟨_, rfl, Kd.R_apartR HQ.out.fun_ HQ.out.funs (by decide)⟩ (fun _ hk => hk) (HQ.out.fresh) (Kd.R_drop HQ.out.funs) HQ.out.below HQ.out.below.size (len_lt _ hfs5 _ (by omega)) ?_; intro U2 w10 ho10 hb10 hg10 _; have S10 := (hg10.block g4 (blk_lt HQ.out.prog) (fun he => (HQ.out.funs.1 g4 he.symm).1.2 rfl)).trans HQ.out.prog; clear p0 p1 p2 p3; obtain ⟨p0, p1, p2, p3⟩ := ps_reads S10; have q0 : w10.frozen? ⟨g4, 0, none⟩ = false := blk_frozen S10 0; obtain ⟨A10, c10, h10⟩ := Kd.R_slice ho10; obtain ⟨n10, hn10⟩ : ∃ n10, (fs ++ [f]).length = n10 := ⟨_, rfl⟩; rw [hn10] at h10; subst h10; have HN := Aside0.mk (HQ.out.next hg10 hb10 ⟨Nat.ne_of_lt HGB.out, Nat.le_of_lt HGB.out⟩ ho10); clear hn10 ho10 hb10 hg10 S10)
        go_roundw
        case rel => exact ⟨a2, i + 1, _, fs ++ [f], rfl, by first | rfl | exact num_next HWI.out, by rw [List.length_append, List.length_singleton]; exact Nat.succ_le_succ HO.out.1, Nat.succ_le_of_lt HO.out.2.1, HI.out.2.2, ⟨by rw [HEQ.out.1, HEQ.out.2]; exact HST.out⟩, HN⟩
        case measure => first | exact meas_next HO.out.2.1 HWI.out | (simp only [intOf]; exact cs_meas' HO.out.2.1)
      have HJN := Aside0.mk hjn
      have hjd : decide (j < n) = true := decide_eq_true hjn
      have hjd2 : decide ((j : Int) < (n : Int)) = true := decide_eq_true (Int.ofNat_lt.2 hjn)
      have ha3 : a2 ≤ 3000 := Nat.le_trans HI.out.2.2 HL3.out
      have HA3 := Aside0.mk ha3
      have hj5 : j ≤ 255 := by omega
      clear hjn
      by_cases ha4 : a2 + 4 ≤ (bs l).size
      case neg =>
        have HEQ := Aside0.mk (show f = F ∧ l.drop a2 = R by have h := HJ.out; rw [rFun_stop _ _ (.inr (drop_short ha4)), List.append_nil] at h; exact h)
        have h4d := no_four ha4
        clear HJ ha4
        have hfs5 := Nat.le_trans HO.out.1 HO.out.2.2
        obtain ⟨A8, c8, h8⟩ := Kd.R_slice HQ.out.fun_
        subst h8
        obtain ⟨p0, p1, p2, p3⟩ := ps_reads HQ.out.prog
        go_wp2_with (at_builtin; refine Kd.R_append (Kd.slice 26 k26) (w0 := w) w.heap.size rfl (.tmp 129) (.tmp 131) 31 38 (.slice none 0 0) 24 rfl Try.underlying31 info38z rfl (by decide) (by decide) U fs f [.slice A8 f.length c8] (fun k => k ≠ w.heap.size ∧ k ≠ g4) (fun k => (k ≠ w.heap.size ∧ k ≠ g4) ∧ some k ≠ U.ownBlock) rfl rfl ⟨_, rfl, Kd.R_apartR HQ.out.fun_ HQ.out.funs (by decide)⟩ (fun _ hk => hk) (HQ.out.fresh) (Kd.R_drop HQ.out.funs) HQ.out.below HQ.out.below.size (len_lt _ hfs5 _ (by omega)) ?_; intro U2 w10 ho10 hb10 hg10 _; have S10 := (hg10.block g4 (blk_lt HQ.out.prog) (fun he => (HQ.out.funs.1 g4 he.symm).1.2 rfl)).trans HQ.out.prog; clear p0 p1 p2 p3; obtain ⟨p0, p1, p2, p3⟩ := ps_reads S10; have q0 : w10.frozen? ⟨g4, 0, none⟩ = false := blk_frozen S10 0; obtain ⟨A10, c10, h10⟩ := Kd.R_slice ho10; obtain ⟨n10, hn10⟩ : ∃ n10, (fs ++ [f]).length = n10 := ⟨_, rfl⟩; rw [hn10] at h10; subst h10; have HN := Aside0.mk (HQ.out.next hg10 hb10 ⟨Nat.ne_of_lt HGB.out, Nat.le_of_lt HGB.out⟩ ho10); clear hn10 ho10 hb10 hg10 S10)
        go_roundw
        case rel => exact ⟨a2, i + 1, _, fs ++ [f], rfl, by first | rfl | exact num_next HWI.out, by rw [List.length_append, List.length_singleton]; exact Nat.succ_le_succ HO.out.1, Nat.succ_le_of_lt HO.out.2.1, HI.out.2.2, ⟨by rw [HEQ.out.1, HEQ.out.2]; exact HST.out⟩, HN⟩
        case measure => first | exact meas_next HO.out.2.1 HWI.out | (simp only [intOf]; exact cs_meas' HO.out.2.1)
      have ha5 : a2 + 4 ≤ l.length := ha4
      have HA5 := Aside0.mk ha5
      have h4d := yes_four ha4
      clear ha4 ha5
      go_wp2_with (fail)
      obtain ⟨b0, b1, b2, b3, hb0, hb1, hb2, hb3, ⟨c0, c1, c2, c3⟩, x0, x1, x2, x3⟩ := at4 HA5.out
      have HB := Aside0.mk (And.intro hb0 (And.intro hb1 (And.intro hb2 hb3)))
      have HC := Aside0.mk (⟨c0, c1, c2, c3⟩ : b0 < 256 ∧ b1 < 256 ∧ b2 < 256 ∧ b3 < 256)
      have e0 := wrap_b c0
      have e1 := wrap_b c1
      have e2 := wrap_b c2
      have e3 := wrap_b c3
      have s1 := wa1 HA3.out
      have s2 := wa2 HA3.out
      have s3 := wa3 HA3.out
      clear hb0 hb1 hb2 hb3 c0 c1 c2 c3
      refine canon [.pure 0, .pure 1, .pure 2, .pure 3, .pure 4, .pure 5, .pure 6, .pure 7, .pure 8, .pure 9, .pure 10, .pure 11, .pure 12, .pure 13, .pure 14, .pure 15, .pure 16, .pure 17, .pure 18, .pure 19, .eff 20, .eff 21] [] (fun _ => True) (by kernel_rfl) rfl rfl (by kernel_rfl) (by intro c d v a w h; cases d <;> exact h) ?_
      intro w5 hb5 _
      replace HQ := Aside0.mk (HQ.out.old hb5)
      clear hb5
      repeat (first | (refine c_pure rfl rfl (by rfl) (v := ?_) ?_ (a' := ?_) ?_ ?_; rotate_left; (focus (intro w'; go_simp; with_reducible rfl)); rotate_left; (focus ((try simp only [Act.put, List.setIfInBounds_toArray, List.set_cons_zero, List.set_cons_succ, i64_w, i32_w]); rfl))) | (refine c_off rfl rfl (by rfl) (a' := ?_) ?_ ?_; rotate_left; (focus ((try simp only [Act.put, List.setIfInBounds_toArray, List.set_cons_zero, List.set_cons_succ, i64_w, i32_w]); rfl))))
      refine c_eff rfl (fun K hK => ?_)
      go_simp
      refine hK _ _ (fun _ => trivial) ?_
      clear hK K
      (refine c_norm (a' := ?_) ?_ ?_; rotate_left; (focus ((try simp only [Act.put, List.setIfInBounds_toArray, List.set_cons_zero, List.set_cons_succ, i64_w, i32_w]); rfl)))
      refine c_eff rfl (fun K hK => ?_)
      rw [if_pos (by rfl)]
      refine wp_store_row 26 (.tmp 10) (.tmp 83) rfl w5.heap.size #[.int .i64 (b0 : Int), .int .i64 (b1 : Int), .int .i64 (b2 : Int), .int .i64 (b3 : Int)] rfl rfl 26 _ (heap_alloc_new w5 _) info26 rfl (by simp [Value.oneCell']) ?_
      refine hK _ _ (fun _ => trivial) ?_
      clear hK K
      have XB := Aside0.mk (setRow_heap (w5.alloc (.cells #[.int .i64 0, .int .i64 0, .int .i64 0, .int .i64 0] 26)) w5.heap.size _ #[.int .i64 (b0 : Int), .int .i64 (b1 : Int), .int .i64 (b2 : Int), .int .i64 (b3 : Int)] 26 (0, 0) (heap_alloc_new w5 _))
      have HBW := Aside0.mk (below_setRow (below_alloc (Below.refl w5.heap.size w5) (.cells #[.int .i64 0, .int .i64 0, .int .i64 0, .int .i64 0] 26)) (Nat.le_refl w5.heap.size) #[.int .i64 (b0 : Int), .int .i64 (b1 : Int), .int .i64 (b2 : Int), .int .i64 (b3 : Int)])
      revert XB HBW
      generalize (w5.alloc (.cells #[.int .i64 0, .int .i64 0, .int .i64 0, .int .i64 0] 26)).setRow w5.heap.size #[.int .i64 (b0 : Int), .int .i64 (b1 : Int), .int .i64 (b2 : Int), .int .i64 (b3 : Int)] = w7
      intro XB HBW
      obtain ⟨gx, hgx⟩ : ∃ gx, w5.heap.size = gx := ⟨_, rfl⟩
      have HGX := Aside0.mk hgx
      rw [hgx] at XB
      rw [hgx]
      clear hgx x0 x1 x2 x3 e0 e1 s1 s2 s3
      (refine c_norm (a' := ?_) ?_ ?_; rotate_left; (focus ((try simp only [Act.put, List.setIfInBounds_toArray, List.set_cons_zero, List.set_cons_succ, i64_w, i32_w]); rfl)))
      refine c_done ?_
      obtain ⟨z0, z1, z2, z3⟩ := ins_reads (x := ⟨b0, b1, b2, b3⟩) XB.out
      have hf5 : f.length ≤ 255 := Nat.le_trans HI.out.1 hj5
      by_cases hb1 : b0 = 1
      case neg =>
        have t1 : ((b0 : Int) == 1) = false := beq_eq_false_iff_ne.mpr (fun h => hb1 (Int.ofNat.inj h))
        have HX := Aside0.mk (rIns_short l a2 b0 b1 b2 b3 HA5.out HB.out.1 HB.out.2.1 HB.out.2.2.1 HB.out.2.2.2 (fun h => hb1 h.1))
        have HQ9 := Aside0.mk (HQ.out.old HBW.out)
        clear hb1 e2 e3
        go_wp2_with (at_builtin; refine Kd.R_append k26 (w0 := w) w.heap.size rfl (.tmp 124) (.tmp 126) 38 26 (.agg #[.int .i64 0, .int .i64 0, .int .i64 0, .int .i64 0]) 32 rfl Try.underlying38 info26z rfl (by decide) (by decide) u7 f (⟨b0, b1, b2, b3⟩) _ (fun k => k ≠ w.heap.size ∧ k ≠ g4) (fun _ => False) rfl (rfl) (k26_mkM _ _ _ (⟨b0, b1, b2, b3⟩)) (fun _ hk => hk.elim) (HQ9.out.fresh) HQ9.out.fun_ HQ9.out.below HQ9.out.below.size (len_lt _ hf5 _ (by omega)) ?_; intro v9 w11 ho9 hb9 hg9 ha9; have HF9 := Aside0.mk (HQ9.out.app hg9 ha9 hb9 ho9); clear ho9 hb9 hg9 ha9)
        go_roundw
        case rel => exact ⟨a2 + 4, j + 1, f ++ [⟨b0, b1, b2, b3⟩], rfl, rfl, ⟨len_snoc HI.out.1, Nat.succ_le_of_lt HJN.out, HA5.out⟩, ⟨rstep HJN.out HA5.out HX.out HJ.out⟩, HF9⟩
        case measure => simp only [intOf]; exact cs_meas' HJN.out
      have t1 : ((b0 : Int) == 1) = true := beq_iff_eq.mpr (congrArg Int.ofNat hb1)
      have HB1 := Aside0.mk hb1
      clear hb1
      by_cases ha6 : a2 + 6 ≤ (bs l).size
      case neg =>
        have h6 := no_six ha6
        have HX := Aside0.mk (rIns_short l a2 b0 b1 b2 b3 HA5.out HB.out.1 HB.out.2.1 HB.out.2.2.1 HB.out.2.2.2 (fun h => ha6 h.2))
        have HQ9 := Aside0.mk (HQ.out.old HBW.out)
        clear ha6 e2 e3
        go_wp2_with (at_builtin; refine Kd.R_append k26 (w0 := w) w.heap.size rfl (.tmp 124) (.tmp 126) 38 26 (.agg #[.int .i64 0, .int .i64 0, .int .i64 0, .int .i64 0]) 32 rfl Try.underlying38 info26z rfl (by decide) (by decide) u7 f (⟨b0, b1, b2, b3⟩) _ (fun k => k ≠ w.heap.size ∧ k ≠ g4) (fun _ => False) rfl (rfl) (k26_mkM _ _ _ (⟨b0, b1, b2, b3⟩)) (fun _ hk => hk.elim) (HQ9.out.fresh) HQ9.out.fun_ HQ9.out.below HQ9.out.below.size (len_lt _ hf5 _ (by omega)) ?_; intro v9 w11 ho9 hb9 hg9 ha9; have HF9 := Aside0.mk (HQ9.out.app hg9 ha9 hb9 ho9); clear ho9 hb9 hg9 ha9)
        go_roundw
        case rel => exact ⟨a2 + 4, j + 1, f ++ [⟨b0, b1, b2, b3⟩], rfl, rfl, ⟨len_snoc HI.out.1, Nat.succ_le_of_lt HJN.out, HA5.out⟩, ⟨rstep HJN.out HA5.out HX.out HJ.out⟩, HF9⟩
        case measure => simp only [intOf]; exact cs_meas' HJN.out
      have h6 := yes_six ha6
      have HA6 := Aside0.mk (show a2 + 6 ≤ l.length from ha6)
      clear ha6
      go_wp2_with (fail)
      obtain ⟨b4, b5', hb4, hb5', ⟨c4, c5⟩, y4, y5⟩ := at6 HA6.out
      have hb0 : (l[a2]'(by have := HA6.out; omega)).toNat = 1 := HB.out.1.trans HB1.out
      have hL := rIns_long l a2 b1 b2 b3 b4 b5' HA6.out hb0 HB.out.2.1 HB.out.2.2.1 HB.out.2.2.2 hb4 hb5'
      obtain ⟨V, hV, hV0, hV1⟩ : ∃ V : Int, ((b2 : Int) * 16777216 + (b3 : Int) * 65536 + (b4 : Int) * 256) + (b5' : Int) = V ∧ 0 ≤ V ∧ V < 4294967296 := sum_range HC.out.2.2.1 HC.out.2.2.2 c4 c5
      rw [hV] at hL
      rw [show (1 : Int) = (b0 : Int) by rw [HB1.out]; rfl] at hL
      have HX := Aside0.mk hL
      have e4 := wrap_b c4
      have e5 := wrap_b c5
      have o1 := or_24 HC.out.2.2.1 HC.out.2.2.2
      have o2 := or_16 HC.out.2.2.1 HC.out.2.2.2 c4
      have o3 := or_0 HC.out.2.2.1 HC.out.2.2.2 c4 c5
      rw [hV] at o3
      have m1 := wrap_m24 HC.out.2.2.1
      have m2 := wrap_m16 HC.out.2.2.2
      have m3 := wrap_256 c4
      have s5 := wa41 HA3.out
      clear hb4 hb5' hb0 hL c4 c5 hV h6 h4d hjd hjd2
      refine canon [.pure 0, .pure 3, .pure 7, .pure 8, .pure 9, .pure 10, .pure 11, .pure 13, .pure 14, .pure 15, .pure 16, .pure 17, .held 1, .pure 2, .held 4, .pure 5, .pure 6, .pure 12, .pure 18, .pure 19] [] (fun W => W.heap[gx]? = some (.cells #[.int .i64 (b0 : Int), .int .i64 (b1 : Int), .int .i64 (b2 : Int), .int .i64 (b3 : Int)] 26 (0, 0))) (by kernel_rfl) rfl rfl (by kernel_rfl) (by intro c d v a w h; cases d <;> exact h) ?_
      intro w8 hb8 _
      have XB8 := Aside0.mk (blk_below XB.out hb8)
      have HBW8 := Aside0.mk (below_step HBW.out hb8)
      clear hb8
      repeat (first | (refine c_pure rfl rfl (by rfl) (v := ?_) ?_ (a' := ?_) ?_ ?_; rotate_left; (focus (intro w'; go_simp; with_reducible rfl)); rotate_left; (focus ((try simp only [Act.put, List.setIfInBounds_toArray, List.set_cons_zero, List.set_cons_succ, i64_w, i32_w]); rfl))) | (refine c_off rfl rfl (by rfl) (a' := ?_) ?_ ?_; rotate_left; (focus ((try simp only [Act.put, List.setIfInBounds_toArray, List.set_cons_zero, List.set_cons_succ, i64_w, i32_w]); rfl))))
      (refine c_cell rfl rfl (by rfl) (XB8.out) 3 (.tmp 96) rfl (⟨gx, 2, none⟩) rfl (.int .i64 (b2 : Int)) (fun w' hS' => (ins_reads (x := ⟨b0, b1, b2, b3⟩) hS').2.2.1) Try.underlying3 rfl (a' := ?_) ?_ ?_; rotate_left; (focus ((try simp only [Act.put, List.setIfInBounds_toArray, List.set_cons_zero, List.set_cons_succ, i64_w, i32_w]); rfl)))
      repeat (first | (refine c_pure rfl rfl (by rfl) (v := ?_) ?_ (a' := ?_) ?_ ?_; rotate_left; (focus (intro w'; go_simp; with_reducible rfl)); rotate_left; (focus ((try simp only [Act.put, List.setIfInBounds_toArray, List.set_cons_zero, List.set_cons_succ, i64_w, i32_w]); rfl))) | (refine c_off rfl rfl (by rfl) (a' := ?_) ?_ ?_; rotate_left; (focus ((try simp only [Act.put, List.setIfInBounds_toArray, List.set_cons_zero, List.set_cons_succ, i64_w, i32_w]); rfl))))
      (refine c_cell rfl rfl (by rfl) (XB8.out) 3 (.tmp 99) rfl (⟨gx, 3, none⟩) rfl (.int .i64 (b3 : Int)) (fun w' hS' => (ins_reads (x := ⟨b0, b1, b2, b3⟩) hS').2.2.2) Try.underlying3 rfl (a' := ?_) ?_ ?_; rotate_left; (focus ((try simp only [Act.put, List.setIfInBounds_toArray, List.set_cons_zero, List.set_cons_succ, i64_w, i32_w]); rfl)))
      repeat (first | (refine c_pure rfl rfl (by rfl) (v := ?_) ?_ (a' := ?_) ?_ ?_; rotate_left; (focus (intro w'; go_simp; with_reducible rfl)); rotate_left; (focus ((try simp only [Act.put, List.setIfInBounds_toArray, List.set_cons_zero, List.set_cons_succ, i64_w, i32_w]); rfl))) | (refine c_off rfl rfl (by rfl) (a' := ?_) ?_ ?_; rotate_left; (focus ((try simp only [Act.put, List.setIfInBounds_toArray, List.set_cons_zero, List.set_cons_succ, i64_w, i32_w]); rfl))))
      refine c_done ?_
      clear o1 o2 o3 m1 m2 m3 s5 e4 e5 e2 e3 y4 y5 z0 z1 z2 z3
      obtain ⟨⟨z0, z1, z2, z3⟩, ⟨q0, q1, q2, q3⟩⟩ := row4' XB8.out
      by_cases hv : 2147483648 ≤ V
      case neg =>
        have hvd : decide (2147483648 ≤ V) = false := decide_eq_false hv
        have HX2 := Aside0.mk (show rIns (l.drop a2) = (⟨b0, b1, V, 0⟩, l.drop (a2 + 6)) by rw [HX.out, sgn, if_neg hv])
        have HQ9 := Aside0.mk (HQ.out.old ((HBW8.out.setCell (p := ⟨gx, 2, none⟩) (Nat.le_of_eq HGX.out) (.int .i64 V)).setCell (p := ⟨gx, 3, none⟩) (Nat.le_of_eq HGX.out) (.int .i64 0)))
        clear HX hv
        have HX := HX2
        go_wp2_with (at_builtin; refine Kd.R_append k26 (w0 := w) w.heap.size rfl (.tmp 124) (.tmp 126) 38 26 (.agg #[.int .i64 0, .int .i64 0, .int .i64 0, .int .i64 0]) 32 rfl Try.underlying38 info26z rfl (by decide) (by decide) u7 f (⟨b0, b1, V, 0⟩) _ (fun k => k ≠ w.heap.size ∧ k ≠ g4) (fun _ => False) rfl (by simp only [World.size_setCell]; rfl) (k26_mkM _ _ _ (⟨b0, b1, V, 0⟩)) (fun _ hk => hk.elim) (HQ9.out.fresh) HQ9.out.fun_ HQ9.out.below HQ9.out.below.size (len_lt _ hf5 _ (by omega)) ?_; intro v9 w11 ho9 hb9 hg9 ha9; have HF9 := Aside0.mk (HQ9.out.app hg9 ha9 hb9 ho9); clear ho9 hb9 hg9 ha9)
        go_roundw
        case rel => exact ⟨a2 + 6, j + 1, f ++ [⟨b0, b1, V, 0⟩], num_six, rfl, ⟨len_snoc HI.out.1, Nat.succ_le_of_lt HJN.out, HA6.out⟩, ⟨rstep HJN.out HA5.out HX.out HJ.out⟩, HF9⟩
        case measure => simp only [intOf]; exact cs_meas' HJN.out
      have hvd : decide (2147483648 ≤ V) = true := decide_eq_true hv
      have HX2 := Aside0.mk (show rIns (l.drop a2) = (⟨b0, b1, V - 4294967296, 0⟩, l.drop (a2 + 6)) by rw [HX.out, sgn, if_pos hv])
      have HQ9 := Aside0.mk (HQ.out.old ((HBW8.out.setCell (p := ⟨gx, 2, none⟩) (Nat.le_of_eq HGX.out) (.int .i64 (V - 4294967296))).setCell (p := ⟨gx, 3, none⟩) (Nat.le_of_eq HGX.out) (.int .i64 0)))
      clear HX hv
      have HX := HX2
      go_wp2_with (at_builtin; refine Kd.R_append k26 (w0 := w) w.heap.size rfl (.tmp 124) (.tmp 126) 38 26 (.agg #[.int .i64 0, .int .i64 0, .int .i64 0, .int .i64 0]) 32 rfl Try.underlying38 info26z rfl (by decide) (by decide) u7 f (⟨b0, b1, V - 4294967296, 0⟩) _ (fun k => k ≠ w.heap.size ∧ k ≠ g4) (fun _ => False) rfl (by simp only [World.size_setCell]; rfl) (k26_mkM _ _ _ (⟨b0, b1, V - 4294967296, 0⟩)) (fun _ hk => hk.elim) (HQ9.out.fresh) HQ9.out.fun_ HQ9.out.below HQ9.out.below.size (len_lt _ hf5 _ (by omega)) ?_; intro v9 w11 ho9 hb9 hg9 ha9; have HF9 := Aside0.mk (HQ9.out.app hg9 ha9 hb9 ho9); clear ho9 hb9 hg9 ha9)
      go_roundw
      case rel => exact ⟨a2 + 6, j + 1, f ++ [⟨b0, b1, V - 4294967296, 0⟩], num_six, rfl, ⟨len_snoc HI.out.1, Nat.succ_le_of_lt HJN.out, HA6.out⟩, ⟨rstep HJN.out HA5.out HX.out HJ.out⟩, HF9⟩
      case measure => simp only [intOf]; exact cs_meas' HJN.out
end Go.Proofs.Ytmofaahhnokohaa.Code
