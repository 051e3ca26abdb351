/- Walk: a program copied; what 'few' tells. -/
import Derived.Test.YtmofaahhnokohaaCode11
import Derived.Test.YtmofaahhnokohaaCode13
import Derived.Test.YtmofaahhnokohaaPCodeAllx1
namespace Go.Proofs.Ytmofaahhnokohaa.Code
set_option linter.unusedSimpArgs false
set_option linter.unusedVariables false
open Go.RowKit Go.Proofs.YtmofaahhnokohaaW.PrintWords Go.Proofs.YtmofaahhnokohaaW.PrintLast Go.Proofs.YtmofaahhnokohaaW.PrintMore PCodeAll Go.Proofs.YtmofaahhnokohaaW.CanonE
attribute [local go_sem] max2_mx min2_mn max_two min_two max_three min_three max_four min_four

def FewB (fs : List (List S26)) : Prop := fs.length ≤ 15 ∧ ∀ f, f ∈ fs → f.length ≤ 45
theorem few_true (fs : List (List S26)) (a b c : Int) : ∀ (d i k : Nat), i + d = 15 → 2 * d + 2 ≤ k → ∃ r, magpielaw00_Few.l0 k i fs a b c = some r ∧ (r = true → fs.length ≤ 15 ∧ ∀ j, i ≤ j → ∀ h : j < fs.length, (fs[j]'h).length ≤ 45) := by
  intro d
  induction d with
  | zero =>
    intro i k hi hk
    obtain ⟨k, rfl⟩ : ∃ m, k = m + 2 := ⟨k - 2, by omega⟩
    have hd : decide ((i : Int) < 15) = false := decide_eq_false (by omega)
    simp only [magpielaw00_Few.l0, magpielaw00_Few.j1, hd]
    refine ⟨decide ((fs.length : Int) ≤ 15), ?_, ?_⟩
    · split <;> exact if_neg (by simp)
    · intro h
      have h2 : (fs.length : Int) ≤ 15 := of_decide_eq_true h
      exact ⟨by omega, fun j hj hl => by omega⟩
  | succ d ih =>
    intro i k hi hk
    obtain ⟨k, rfl⟩ : ∃ m, k = m + 2 := ⟨k - 2, by omega⟩
    have hd : decide ((i : Int) < 15) = true := decide_eq_true (by omega)
    have hw : wrap64 ((i : Int) + 1) = ((i + 1 : Nat) : Int) := by rw [wrap64_id _ (by omega)]; rfl
    obtain ⟨r, hr, hr2⟩ := ih (i + 1) k (by omega) (by omega)
    simp only [magpielaw00_Few.l0, magpielaw00_Few.j1, hd, hw]
    by_cases hl : (i : Int) < (fs.length : Int)
    · have hl' : i < fs.length := by omega
      rw [if_pos hl, if_pos trivial, if_pos (by omega), if_pos hl, rd_L2_at fs i hl']
      by_cases h45 : (((fs[i]'hl').length : Nat) : Int) > 45
      · rw [if_pos h45]
        exact ⟨_, rfl, fun h => by cases h⟩
      · rw [if_neg h45]
        refine ⟨r, hr, fun h => ?_⟩
        obtain ⟨h1, h2⟩ := hr2 h
        refine ⟨h1, fun j hj hjl => ?_⟩
        by_cases hij : i = j
        · subst hij
          omega
        · exact h2 j (by omega) hjl
    · rw [if_neg hl]
      refine ⟨_, if_neg (by simp), fun h => ?_⟩
      have h2 : (fs.length : Int) ≤ 15 := of_decide_eq_true h
      exact ⟨by omega, fun j hj hjl => by omega⟩
theorem fewB_calls (p : PG) (A : Option Addr) (c : Nat) (hc : p.fs.length ≤ c) (w : World) (hC : p.C w A) :
    ∃ r, (r = true → FewB p.fs) ∧ Calls Try.prog 16 #[p.val A c] w fun e w' => e = .returned (.bool r) ∧ Below w.heap.size w w' := by
  obtain ⟨r, hr, hr2⟩ := few_true p.fs p.fu p.de p.fl 15 0 32 (by omega) (by omega)
  refine ⟨r, fun h => ?_, magpielaw00_Few.calls 32 A c p.fs p.fu p.de p.fl r w hC hc hr⟩
  obtain ⟨h1, h2⟩ := hr2 h
  refine ⟨h1, fun f hf => ?_⟩
  obtain ⟨j, hj, rfl⟩ := List.getElem_of_mem hf
  exact h2 j (Nat.zero_le _) hj
/-- While a program is being copied: it lies boxed in b1; the answer's place g2, the copy in g3, its functions so far. -/
structure CP (w0 : World) (b1 g2 g3 : Nat) (PC : Array Value) (fu de fl : Int) (w : World) (U : Value) (fs : List (List S26)) : Prop where
  below : Below w0.heap.size w0 w
  arg : w.heap[b1]? = some (.cells PC 33 (0, 0))
  res : w.heap[g2]? = some (.cells #[.slice none 0 0, .int .i64 0, .int .i64 0, .int .i64 0] 33 (0, 0))
  prog : w.heap[g3]? = some (.cells #[U, .int .i64 fu, .int .i64 de, .int .i64 fl] 33 (0, 0))
  funs : RP w w0.heap.size (fun k => k ≠ b1 ∧ k ≠ g2 ∧ k ≠ g3) U fs
namespace CP
variable {w0 w w1 : World} {b1 g2 g3 : Nat} {PC : Array Value} {fu de fl : Int} {U : Value} {fs : List (List S26)}
/-- Nothing old has turned. -/
theorem old (h : CP w0 b1 g2 g3 PC fu de fl w U fs) (hb : Below w.heap.size w w1) : CP w0 b1 g2 g3 PC fu de fl w1 U fs :=
  ⟨below_step h.below hb, blk_below h.arg hb, blk_below h.res hb, blk_below h.prog hb, Kd.R_below h.funs hb⟩
theorem grown (h : CP w0 b1 g2 g3 PC fu de fl w U fs) (hg : w.grownBy w1 none) (hB : Below w0.heap.size w0 w1) : CP w0 b1 g2 g3 PC fu de fl w1 U fs :=
  ⟨hB, (hg.block b1 (blk_lt h.arg) (by simp)).trans h.arg, (hg.block g2 (blk_lt h.res) (by simp)).trans h.res, (hg.block g3 (blk_lt h.prog) (by simp)).trans h.prog, Kd.R_grown h.funs hg (by simp)⟩
theorem next {U1 : Value} {fs1 : List (List S26)} (h : CP w0 b1 g2 g3 PC fu de fl w U fs) (hg : w.grownBy w1 U.ownBlock) (hB : Below w0.heap.size w0 w1) (hn : b1 ≠ g3 ∧ g2 ≠ g3 ∧ w0.heap.size ≤ g3)
    (hR : RP w1 w0.heap.size (fun k => k ≠ b1 ∧ k ≠ g2 ∧ k ≠ g3) U1 fs1) : CP w0 b1 g2 g3 PC fu de fl (w1.setCell ⟨g3, 0, none⟩ U1) U1 fs1 := by
  have hne : ∀ k, U.ownBlock = some k → (k ≠ b1 ∧ k ≠ g2 ∧ k ≠ g3) := fun k hk => h.funs.1 k hk
  exact ⟨hB.setCell hn.2.2 U1, (Below.heap_setCell w1 ⟨g3, 0, none⟩ U1 b1 hn.1).trans ((hg.block b1 (blk_lt h.arg) (fun he => (hne b1 he.symm).1 rfl)).trans h.arg),
    (Below.heap_setCell w1 ⟨g3, 0, none⟩ U1 g2 hn.2.1).trans ((hg.block g2 (blk_lt h.res) (fun he => (hne g2 he.symm).2.1 rfl)).trans h.res),
    blk_put ((hg.block g3 (blk_lt h.prog) (fun he => (hne g3 he.symm).2.2 rfl)).trans h.prog) 0 U1 rfl,
    Kd.R_far hR (fun k hk => hk.2.2) U1⟩
theorem fresh (h : CP w0 b1 g2 g3 PC fu de fl w U fs) : ∀ k, w.heap.size ≤ k → k ≠ b1 ∧ k ≠ g2 ∧ k ≠ g3 := by
  intro k hk
  have h1 := blk_lt h.arg
  have h2 := blk_lt h.res
  have h3 := blk_lt h.prog
  omega
end CP
theorem km26 {w w' : World} {base : Nat} {ok : Nat → Prop} : ∀ (x : S26) (cs : List Value), k26.K w x cs → k26.M w' base ok x cs := fun x cs h => by
  rw [k26_open h]
  exact k26_mkM w' base ok x
theorem len_45 (n m : Nat) (h : n ≤ 45) (hm : m ≤ 0) (b : Nat) (hb : b ≤ 32) : (m + n) * b ≤ 140737488355328 := by
  have : (m + n) * b ≤ 45 * 32 := Nat.mul_le_mul (by omega) hb
  omega
set_option maxHeartbeats 1000000 in
theorem CopyProg_calls (p : PG) (A : Option Addr) (c : Nat) (w : World) (hC : p.C w A) (hf : FewB p.fs) :
    Calls Try.prog 17 #[p.val A c] w fun e w' => ∃ U, e = .returned (.agg #[U, .int .i64 p.fu, .int .i64 p.de, .int .i64 p.fl]) ∧ RP w' w.heap.size (fun _ => True) U p.fs ∧ Below w.heap.size w w' := by
  obtain ⟨ps, fu, de, fl⟩ := p
  have HC := Aside0.mk (show Kd.C (Kd.slice 26 k26) w A ps.length ps from hC)
  have HF := Aside0.mk (show FewB ps from hf)
  clear hC hf
  have S0 := heap_alloc_new w (.cells #[.slice A ps.length c, .int .i64 fu, .int .i64 de, .int .i64 fl] 33)
  obtain ⟨r0, r1, r2, r3⟩ := ps_reads (blk_alloc S0 (.cells #[.slice none 0 0, .int .i64 0, .int .i64 0, .int .i64 0] 33))
  have P0 : CP w w.heap.size (w.heap.size + 1) (w.heap.size + 1 + 1) #[.slice A ps.length c, .int .i64 fu, .int .i64 de, .int .i64 fl] fu de fl
      (((w.alloc (.cells #[.slice A ps.length c, .int .i64 fu, .int .i64 de, .int .i64 fl] 33)).alloc (.cells #[.slice none 0 0, .int .i64 0, .int .i64 0, .int .i64 0] 33)).alloc (.cells #[.slice none 0 0, .int .i64 fu, .int .i64 de, .int .i64 fl] 33)) (.slice none 0 0) [] := by
    refine ⟨below_alloc (below_alloc (below_alloc (Below.refl _ _) _) _) _, blk_alloc (blk_alloc S0 _) _, blk_alloc ?_ _, ?_, Kd.R_nil _ _ _ _ _⟩
    · have h := heap_alloc_new (w.alloc (.cells #[.slice A ps.length c, .int .i64 fu, .int .i64 de, .int .i64 fl] 33)) (.cells #[.slice none 0 0, .int .i64 0, .int .i64 0, .int .i64 0] 33)
      rw [World.size_alloc] at h
      exact h
    · have h := heap_alloc_new ((w.alloc (.cells #[.slice A ps.length c, .int .i64 fu, .int .i64 de, .int .i64 fl] 33)).alloc (.cells #[.slice none 0 0, .int .i64 0, .int .i64 0, .int .i64 0] 33)) (.cells #[.slice none 0 0, .int .i64 fu, .int .i64 de, .int .i64 fl] 33)
      rw [World.size_alloc, World.size_alloc] at h
      exact h
  replace P0 := Aside0.mk P0
  clear S0
  show Calls Try.prog 17 #[.agg #[.slice A ps.length c, .int .i64 fu, .int .i64 de, .int .i64 fl]] w _
  go_enter Try.func17, Try.ntmps17
  go_wp2_with (fail)
  clear r0 r1 r2 r3
  revert P0
  generalize ((w.alloc (.cells #[.slice A ps.length c, .int .i64 fu, .int .i64 de, .int .i64 fl] 33)).alloc (.cells #[.slice none 0 0, .int .i64 0, .int .i64 0, .int .i64 0] 33)).alloc (.cells #[.slice none 0 0, .int .i64 fu, .int .i64 de, .int .i64 fl] 33) = w1
  intro P0
  obtain ⟨g2, hg2⟩ : ∃ g2, w.heap.size + 1 = g2 := ⟨_, rfl⟩
  obtain ⟨g3, hg3⟩ : ∃ g3, w.heap.size + 1 + 1 = g3 := ⟨_, rfl⟩
  have HG := Aside0.mk (show w.heap.size ≠ g3 ∧ g2 ≠ g3 ∧ w.heap.size ≤ g3 ∧ w.heap.size ≤ g2 by omega)
  rw [hg3, hg2] at P0
  rw [hg3, hg2]
  clear hg2 hg3
  go_loopw [4] (fun u w' => ∃ (i : Nat) (U : Value) (fs : List (List S26)), u = .int .i64 i ∧ i ≤ ps.length ∧ Aside0 (fs = ps.take i) ∧ Aside0 (CP w w.heap.size g2 g3 #[.slice A ps.length c, .int .i64 fu, .int .i64 de, .int .i64 fl] fu de fl w' U fs)) (fun u _ => ps.length - (intOf u).toNat)
  case atStart => exact ⟨0, _, [], rfl, by omega, ⟨rfl⟩, P0⟩
  case round =>
    obtain ⟨i, U, fs, rfl, hi, HFS, HP⟩ := hrel
    clear P0
    have r0 := (ps_reads HP.out.arg).1
    by_cases hlt : i < ps.length
    · obtain ⟨ad, A0, c0, rfl, a0, _, hA0⟩ := at_L2 HC.out i (by omega) (by omega)
      rw [Int.toNat_natCast, rd_L2_at ps i hlt] at a0
      rw [rd_L2_at ps i hlt] at hA0
      have hix := fun (W : World) => ix31 ad ps.length c (i : Int) i W (by omega) (by omega) (Int.toNat_natCast i)
      have h45 := HF.out.2 _ (List.getElem_mem hlt)
      have h15 := HF.out.1
      have HST := Aside0.mk (show fs ++ [ps[i]'hlt] = ps.take (i + 1) by rw [HFS.out, List.take_append_getElem hlt])
      have hfl : fs.length ≤ 255 := by rw [HFS.out, List.length_take]; omega
      obtain ⟨f, hf⟩ : ∃ f, ps[i]'hlt = f := ⟨_, rfl⟩
      rw [hf] at a0 hA0 h45 HST
      have HA0 := Aside0.mk hA0
      have A0w := Aside0.mk a0
      have HW5 := Aside0.mk (wrap_next hlt HC.out.2.1)
      clear hA0 hf a0
      go_wp2_with (fail)
      refine canon [.pure 0, .pure 2, .pure 4, .held 1, .held 3, .pure 5, .held 6, .eff 7, .eff 8, .eff 9, .pure 10, .last 11] [11] (fun W => W.heap[g3]? = some (.cells #[U, .int .i64 fu, .int .i64 de, .int .i64 fl] 33 (0, 0)) ∧ W.heap[w.heap.size]? = some (.cells #[.slice (some ad) ps.length c, .int .i64 fu, .int .i64 de, .int .i64 fl] 33 (0, 0)) ∧ Below w.heap.size w W) (by kernel_rfl) rfl rfl (by kernel_rfl) (by intro c d v a w h; cases d <;> exact h) ?_
      intro w6 hb6 _
      replace HP := Aside0.mk (HP.out.old hb6)
      have S6 := Aside0.mk (⟨HP.out.prog, HP.out.arg, HP.out.below⟩ : w6.heap[g3]? = some (.cells #[U, .int .i64 fu, .int .i64 de, .int .i64 fl] 33 (0, 0)) ∧ w6.heap[w.heap.size]? = some (.cells #[.slice (some ad) ps.length c, .int .i64 fu, .int .i64 de, .int .i64 fl] 33 (0, 0)) ∧ Below w.heap.size w w6)
      clear hb6 r0
      repeat (first | (refine c_pure rfl rfl (by rfl) (v := ?_) ?_ (a' := ?_) ?_ ?_; rotate_left; (focus (intro w'; go_simp; with_reducible rfl)); rotate_left; (focus ((try simp only [Act.put, List.setIfInBounds_toArray, List.set_cons_zero, List.set_cons_succ, i64_w, i32_w]); rfl))) | (refine c_off rfl rfl (by rfl) (a' := ?_) ?_ ?_; rotate_left; (focus ((try simp only [Act.put, List.setIfInBounds_toArray, List.set_cons_zero, List.set_cons_succ, i64_w, i32_w]); rfl))))
      (refine c_cell rfl rfl (by rfl) (S6.out) 31 (.tmp 19) rfl (⟨g3, 0, none⟩) rfl (U) (fun w' hS' => (ps_reads hS'.1).1) Try.underlying31 rfl (a' := ?_) ?_ ?_; rotate_left; (focus ((try simp only [Act.put, List.setIfInBounds_toArray, List.set_cons_zero, List.set_cons_succ, i64_w, i32_w]); rfl)))
      (refine c_cell rfl rfl (by rfl) (S6.out) 31 (.tmp 21) rfl (⟨w.heap.size, 0, none⟩) rfl (.slice (some ad) ps.length c) (fun w' hS' => (ps_reads hS'.2.1).1) Try.underlying31 rfl (a' := ?_) ?_ ?_; rotate_left; (focus ((try simp only [Act.put, List.setIfInBounds_toArray, List.set_cons_zero, List.set_cons_succ, i64_w, i32_w]); rfl)))
      repeat (first | (refine c_pure rfl rfl (by rfl) (v := ?_) ?_ (a' := ?_) ?_ ?_; rotate_left; (focus (intro w'; go_simp; with_reducible rfl)); rotate_left; (focus ((try simp only [Act.put, List.setIfInBounds_toArray, List.set_cons_zero, List.set_cons_succ, i64_w, i32_w]); rfl))) | (refine c_off rfl rfl (by rfl) (a' := ?_) ?_ ?_; rotate_left; (focus ((try simp only [Act.put, List.setIfInBounds_toArray, List.set_cons_zero, List.set_cons_succ, i64_w, i32_w]); rfl))))
      (refine c_cell rfl rfl (by rfl) (S6.out) 38 (.tmp 24) rfl (ad.add i) rfl (.slice A0 f.length c0) (fun w' hS' => cell_below A0w.out hS'.2.2) Try.underlying38 rfl (a' := ?_) ?_ ?_; rotate_left; (focus ((try simp only [Act.put, List.setIfInBounds_toArray, List.set_cons_zero, List.set_cons_succ, i64_w, i32_w]); rfl)))
      refine c_eff rfl (fun K1 hK1 => ?_)
      refine Kd.R_append_rows_step k26 (Rr := k26.K w6) (w0 := w) w.heap.size (by rfl) (.const (.slice none 0 0)) (.tmp 25) 38 26 (.agg #[.int .i64 0, .int .i64 0, .int .i64 0, .int .i64 0]) 32 rfl Try.underlying38 info26z rfl (by decide) (by decide) (.slice none 0 0) [] f A0 f.length c0 (fun k => k ≠ w.heap.size ∧ k ≠ g2 ∧ k ≠ g3) (fun _ => False) rfl rfl (Kd.R_nil _ _ _ _ _) (Kd.C_below HA0.out HP.out.below) km26 (fun _ hk => hk.elim) HP.out.fresh HP.out.below HP.out.below.size (len_45 _ _ h45 (by simp) _ (by omega)) ?_
      intro v7 w7 ho7 hb7 hg7 _
      have HP7 := Aside0.mk (HP.out.grown hg7 hb7)
      rw [List.nil_append] at ho7
      obtain ⟨A7, c7, h7⟩ := Kd.R_slice ho7
      subst h7
      have HR7 := Aside0.mk ho7
      refine hK1 _ _ (fun _ => ⟨HP7.out.prog, HP7.out.arg, HP7.out.below⟩) ?_
      clear ho7 hb7 hg7 hK1 K1 HP S6
      (refine c_norm (a' := ?_) ?_ ?_; rotate_left; (focus ((try simp only [Act.put, List.setIfInBounds_toArray, List.set_cons_zero, List.set_cons_succ, i64_w, i32_w]); rfl)))
      refine c_eff rfl (fun K1 hK1 => ?_)
      go_simp
      refine hK1 _ _ (fun h => ⟨blk_alloc h.1 _, blk_alloc h.2.1 _, below_alloc h.2.2 _⟩) ?_
      clear hK1 K1
      (refine c_norm (a' := ?_) ?_ ?_; rotate_left; (focus ((try simp only [Act.put, List.setIfInBounds_toArray, List.set_cons_zero, List.set_cons_succ, i64_w, i32_w]); rfl)))
      refine c_eff rfl (fun K1 hK1 => ?_)
      refine Kd.R_append_step (Kd.slice 26 k26) (w0 := w) w.heap.size (by rfl) (.tmp 20) (.tmp 27) 31 38 (.slice none 0 0) 24 rfl Try.underlying31 info38z rfl (by decide) (by decide) U fs f [.slice A7 f.length c7] (fun k => k ≠ w.heap.size ∧ k ≠ g2 ∧ k ≠ g3) (fun k => (k ≠ w.heap.size ∧ k ≠ g2 ∧ k ≠ g3) ∧ some k ≠ U.ownBlock) rfl rfl ⟨_, rfl, Kd.R_apartR HR7.out HP7.out.funs (by decide)⟩ (fun _ hk => hk) HP7.out.fresh HP7.out.funs HP7.out.below HP7.out.below.size (len_lt _ hfl _ (by omega)) ?_
      intro U2 w10 ho10 hb10 hg10 _
      have hne := fun k (hk : U.ownBlock = some k) => HP7.out.funs.1 k hk
      have S10 := (hg10.block g3 (blk_lt HP7.out.prog) (fun he => (hne g3 he.symm).2.2 rfl)).trans HP7.out.prog
      have T10 := (hg10.block w.heap.size (blk_lt HP7.out.arg) (fun he => (hne _ he.symm).1 rfl)).trans HP7.out.arg
      refine hK1 _ _ (fun _ => ⟨S10, T10, hb10⟩) ?_
      obtain ⟨A10, c10, h10⟩ := Kd.R_slice ho10
      obtain ⟨n10, hn10⟩ : ∃ n10, (fs ++ [f]).length = n10 := ⟨_, rfl⟩
      rw [hn10] at h10
      subst h10
      have HN := Aside0.mk (HP7.out.next hg10 hb10 ⟨HG.out.1, HG.out.2.1, HG.out.2.2.1⟩ ho10)
      obtain ⟨p0, p1, p2, p3⟩ := ps_reads S10
      have q0 : w10.frozen? ⟨g3, 0, none⟩ = false := blk_frozen S10 0
      clear hn10 ho10 hb10 hg10 hne S10 T10 hK1 K1 HP7 HR7
      (refine c_norm (a' := ?_) ?_ ?_; rotate_left; (focus ((try simp only [Act.put, List.setIfInBounds_toArray, List.set_cons_zero, List.set_cons_succ, i64_w, i32_w]); rfl)))
      repeat (first | (refine c_pure rfl rfl (by rfl) (v := ?_) ?_ (a' := ?_) ?_ ?_; rotate_left; (focus (intro w'; go_simp; with_reducible rfl)); rotate_left; (focus ((try simp only [Act.put, List.setIfInBounds_toArray, List.set_cons_zero, List.set_cons_succ, i64_w, i32_w]); rfl))) | (refine c_off rfl rfl (by rfl) (a' := ?_) ?_ ?_; rotate_left; (focus ((try simp only [Act.put, List.setIfInBounds_toArray, List.set_cons_zero, List.set_cons_succ, i64_w, i32_w]); rfl))))
      refine c_last rfl (fun K1 hK1 => ?_)
      go_simp
      refine hK1 _ _ ?_
      clear hK1 K1
      (refine c_norm (a' := ?_) ?_ ?_; rotate_left; (focus ((try simp only [Act.put, List.setIfInBounds_toArray, List.set_cons_zero, List.set_cons_succ, i64_w, i32_w]); rfl)))
      refine c_done ?_
      go_wp2_with (fail)
      go_roundw
      case rel => exact ⟨i + 1, _, fs ++ [f], rfl, Nat.succ_le_of_lt hlt, HST, HN⟩
      case measure => simp only [intOf]; exact cs_meas' hlt
    · have hie : i = ps.length := by omega
      subst hie
      have HEQ := Aside0.mk (show fs = ps by rw [HFS.out, List.take_length])
      obtain ⟨A9, c9, h9⟩ := Kd.R_slice HP.out.funs
      subst h9
      obtain ⟨p0, p1, p2, p3⟩ := ps_reads HP.out.prog
      obtain ⟨_, q0, q1, q2, q3⟩ := row4' HP.out.res
      have hd : decide (ps.length < ps.length) = false := decide_eq_false (Nat.lt_irrefl _)
      have SX := Aside0.mk (blk_put (blk_put (blk_put (blk_put HP.out.res 0 (.slice A9 fs.length c9) rfl) 1 (.int .i64 fu) rfl) 2 (.int .i64 de) rfl) 3 (.int .i64 fl) (cs' := #[.slice A9 fs.length c9, .int .i64 fu, .int .i64 de, .int .i64 fl]) rfl)
      have HR := Aside0.mk (HP.out.funs)
      have HBB := Aside0.mk (HP.out.below)
      have hg2 := HG.out.2.2.2
      clear hi hlt HFS
      go_wp2_with (fail)
      refine bodyPost_ret (results_single rfl (.cell g2 33 #[.slice A9 fs.length c9, .int .i64 fu, .int .i64 de, .int .i64 fl] (0, 0) _ rfl SX.out Try.underlying33 rfl info33 .nil)) rfl ?_
      refine ⟨_, rfl, ?_, (((HBB.out.setCell hg2 _).setCell hg2 _).setCell hg2 _).setCell hg2 _⟩
      show RP _ _ _ _ ps
      rw [← HEQ.out]
      exact Kd.R_mono (Kd.R_far (Kd.R_far (Kd.R_far (Kd.R_far HR.out (fun k hk => hk.2.1) _) (fun k hk => hk.2.1) _) (fun k hk => hk.2.1) _) (fun k hk => hk.2.1) _) (fun _ _ => trivial)
end Go.Proofs.Ytmofaahhnokohaa.Code
