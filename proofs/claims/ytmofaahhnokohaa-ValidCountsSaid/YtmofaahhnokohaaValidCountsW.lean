/- The walk of ValidCounts. -/
import Derived.Test.YtmofaahhnokohaaCode24
namespace Go.Proofs.Ytmofaahhnokohaa.ValidCounts
set_option linter.unusedSimpArgs false
set_option linter.unusedVariables false
open Go.RowKit Go.Proofs.YtmofaahhnokohaaW.PrintWords Go.Proofs.YtmofaahhnokohaaW.PrintLast Go.Proofs.YtmofaahhnokohaaW.PrintMore PCodeAll Go.Proofs.YtmofaahhnokohaaW.CanonE Go.Proofs.Ytmofaahhnokohaa.Code
attribute [local go_sem] max2_mx min2_mn max_two min_two max_three min_three max_four min_four
theorem cnt_two (f : List S26) : cntN ([⟨9, 0, 0, 0⟩, ⟨13, 0, 0, 0⟩] ++ f) = cntN f + 1 := by
  rw [cntN, List.filter_append, List.length_append]
  have : (List.filter isFork [(⟨9, 0, 0, 0⟩ : S26), ⟨13, 0, 0, 0⟩]).length = 1 := by decide
  rw [this, cntN]
  omega
theorem can_two (f : List S26) : canB ([⟨9, 0, 0, 0⟩, ⟨13, 0, 0, 0⟩] ++ f) = true := by
  rw [canB, List.any_append]
  rfl
theorem any_set {fs : List (List S26)} {k : Nat} {f : List S26} (hk : k < fs.length) (h : canB f = true) : (fs.set k f).any canB = true := by
  refine List.any_eq_true.mpr ⟨f, ?_, h⟩
  exact List.mem_iff_getElem.mpr ⟨k, by rw [List.length_set]; exact hk, by simp⟩
theorem few_set {fs : List (List S26)} {k : Nat} {f : List S26} (h : FewB fs) (hf : f.length ≤ 45) : FewB (fs.set k f) := by
  refine ⟨by rw [List.length_set]; exact h.1, fun g hg => ?_⟩
  rcases List.mem_or_eq_of_mem_set hg with h1 | h1
  · exact h.2 g h1
  · rw [h1]; exact hf
theorem cnt_at (fs : List (List S26)) (i : Nat) (h : i < fs.length) : (fs.map (fun f => (cntN f : Int))).getD i 0 = (cntN (fs[i]'h) : Int) := by
  rw [List.getD_eq_getElem?_getD, List.getElem?_map, List.getElem?_eq_getElem h]
  rfl
theorem Forks' (fs : List (List S26)) (fu de fl : Int) (N : Nat) (hN : fs.length = N) (A : Option Addr) (c : Nat) (w : World) (hC : Kd.C (Kd.slice 26 k26) w A fs.length fs) (hf : FewB fs) :
    Calls Try.prog 25 #[.agg #[.slice A N c, .int .i64 fu, .int .i64 de, .int .i64 fl]] w fun e w' => ∃ g, e = .returned (.slice (some ⟨g, 0, none⟩) N N) ∧ OI w' w.heap.size g N (fs.map (fun f => (cntN f : Int))) ∧ Below w.heap.size w w' := by
  subst hN
  exact Forks_calls ⟨fs, fu, de, fl⟩ A c w hC hf
theorem Cancels' (fs : List (List S26)) (fu de fl : Int) (N : Nat) (hN : fs.length = N) (A : Option Addr) (c : Nat) (w : World) (hC : Kd.C (Kd.slice 26 k26) w A fs.length fs) :
    Calls Try.prog 26 #[.agg #[.slice A N c, .int .i64 fu, .int .i64 de, .int .i64 fl]] w fun e w' => e = .returned (.bool (fs.any canB)) ∧ Below w.heap.size w w' := by
  subst hN
  exact Cancels_calls ⟨fs, fu, de, fl⟩ A c w hC
theorem len_13 (n : Nat) (h : n ≤ 11) (b : Nat) (hb : b ≤ 32) : (2 + n) * b ≤ 140737488355328 := by
  have : (2 + n) * b ≤ 13 * 32 := Nat.mul_le_mul (by omega) hb
  omega
theorem rp_free {w : World} {base g m c : Nat} {ok : Nat → Prop} {fs : List (List S26)} (h : RP w base ok (.slice (some ⟨g, 0, none⟩) m c) fs) (i : Nat) : w.frozen? ⟨g, i, none⟩ = false := by
  obtain ⟨inner, ho⟩ := Kd.R_own h
  obtain ⟨cells, hc⟩ := own_typed ho g (by simp [Value.ownBlock])
  exact blk_frozen hc i
theorem rp_cell {w : World} {base g m c : Nat} {ok : Nat → Prop} {fs : List (List S26)} (h : RP w base ok (.slice (some ⟨g, 0, none⟩) m c) fs) (i : Nat) (hi : i < m) : ∃ v, w.cell? ⟨g, i, none⟩ = some v := by
  obtain ⟨hn, _, hC⟩ := Kd.R_reads' h
  obtain ⟨ad, A0, c0, he, hcell, _, _⟩ := at_L2 hC (i : Int) (by omega) (by omega)
  injection he with he
  subst he
  rw [Int.toNat_natCast, add_plain] at hcell
  exact ⟨_, hcell⟩
theorem ne_some {a b : Nat} (h : a ≠ b) : some a ≠ some b := fun he => h (Option.some.inj he)
theorem own_ne {g k b m : Nat} (hk : (Value.slice (some ⟨g, 0, none⟩) m m).ownBlock = some k) (h : g ≠ b) : some k ≠ some b := by
  have : g = k := by simpa [Value.ownBlock] using hk
  subst this
  exact ne_some h
theorem lower {w : World} {b b' g m : Nat} {xs : List Int} (h : OI w b g m xs) (hb : b' ≤ b) : OI w b' g m xs := own_weaken h hb
set_option maxRecDepth 100000 in
set_option maxHeartbeats 2000000 in
theorem ValidCounts_calls (n : List Int) (A : Option Addr) (c : Nat) (add : Int) (w : World) (hC : (Kd.int .i64).C w A n.length n) (hc : n.length ≤ c) :
    Calls Try.prog 10 #[.slice A n.length c, .int .i64 add] w fun e w' => e = .returned (.bool true) ∧ Below w.heap.size w w' := by
  by_cases h100 : 100 < n.length
  · have h100' : decide ((100 : Int) < (n.length : Int)) = true := decide_eq_true (by omega)
    clear hC
    go_enter Try.func10, Try.ntmps10
    go_wp2_with (fail)
    refine (vawake_calls _).mono ?_
    rintro e w1 ⟨rfl, hb⟩
    have HB := Aside0.mk hb
    clear hb
    go_wp2_with (fail)
    go_ret
    exact ⟨rfl, HB.out⟩
  have h100' : decide ((100 : Int) < (n.length : Int)) = false := decide_eq_false (by omega)
  clear h100
  have HC := Aside0.mk hC
  clear hC
  go_enter Try.func10, Try.ntmps10
  go_wp2_with (fail)
  refine (Prog_calls n A c false _ HC.out hc).mono ?_
  rintro e w1 ⟨p, U, rfl, hp, hR, hb⟩
  obtain ⟨gU, cU, rfl, hgU0, hgU1, cells, hgU2⟩ := Kd.R_form hR (by have := hp.len; omega)
  have HP := Aside0.mk hp
  have S1 := Aside0.mk (heap_alloc_new w1 (.cells #[.slice (some ⟨gU, 0, none⟩) p.fs.length cU, .int .i64 p.fu, .int .i64 p.de, .int .i64 p.fl] 33))
  have HB1 := Aside0.mk (hb.alloc hb.size (.cells #[.slice (some ⟨gU, 0, none⟩) p.fs.length cU, .int .i64 p.fu, .int .i64 p.de, .int .i64 p.fl] 33))
  have HR1 := Aside0.mk (Kd.R_alloc hR (.cells #[.slice (some ⟨gU, 0, none⟩) p.fs.length cU, .int .i64 p.fu, .int .i64 p.de, .int .i64 p.fl] 33))
  have HG := Aside0.mk (⟨hgU1, hb.size⟩ : gU < w1.heap.size ∧ w.heap.size ≤ w1.heap.size)
  have HG0 := Aside0.mk hgU0
  clear HC hp hR hb hgU0 hgU1 hgU2 h100' hc
  obtain ⟨⟨p0, p1, p2, p3⟩, ⟨q0, q1, q2, q3⟩⟩ := row4' S1.out
  go_wp2_with (fail)
  clear p0 p1 p2 p3 q0 q1 q2 q3
  revert S1 HB1 HR1 HG
  generalize w1.alloc (.cells #[.slice (some ⟨gU, 0, none⟩) p.fs.length cU, .int .i64 p.fu, .int .i64 p.de, .int .i64 p.fl] 33) = w2
  generalize w1.heap.size = g5
  intro S1 HB1 HR1 HG
  have HFW := Aside0.mk (prog_few HP.out)
  have HNC := Aside0.mk (prog_noCan HP.out)
  refine canon [.held 0, .held 2, .eff 1, .eff 3, .pure 4, .pure 5] [] (fun W => Below w2.heap.size w2 W) (by kernel_rfl) rfl rfl (by kernel_rfl) (by intro c d v a w h; cases d <;> exact h) ?_
  intro w3 hb3 _
  have HZ := Aside0.mk hb3
  clear hb3
  (refine c_row rfl rfl (by rfl) HZ.out 33 (.tmp 5) rfl g5 rfl 33 _ (0, 0) _ (fun w' hS' => blk_below S1.out hS') Try.underlying33 rfl info33 (a' := ?_) ?_ ?_; rotate_left; (focus ((try simp only [Act.put, List.setIfInBounds_toArray, List.set_cons_zero, List.set_cons_succ, i64_w, i32_w]); rfl)))
  (refine c_row rfl rfl (by rfl) HZ.out 33 (.tmp 5) rfl g5 rfl 33 _ (0, 0) _ (fun w' hS' => blk_below S1.out hS') Try.underlying33 rfl info33 (a' := ?_) ?_ ?_; rotate_left; (focus ((try simp only [Act.put, List.setIfInBounds_toArray, List.set_cons_zero, List.set_cons_succ, i64_w, i32_w]); rfl)))
  refine c_eff rfl (fun K hK => ?_)
  go_simp
  have HR3 := Aside0.mk (Kd.R_below HR1.out HZ.out)
  refine (Forks_calls p (some ⟨gU, 0, none⟩) cU _ (Kd.R_reads' HR3.out).2.2 HFW.out).mono ?_
  rintro e w4 ⟨ga, rfl, hoa, hb4⟩
  refine hK _ _ (fun h => below_step h hb4) ?_
  have HZ4 := Aside0.mk (below_step HZ.out hb4)
  have HR4 := Aside0.mk (Kd.R_below HR3.out hb4)
  have HA4 := Aside0.mk (lower hoa (Nat.le_trans HG.out.2 (Nat.le_trans (Nat.le_of_lt (blk_lt S1.out)) HZ.out.size)))
  have HGA := Aside0.mk (Nat.lt_of_lt_of_le (blk_lt S1.out) (Nat.le_trans HZ.out.size hoa.base))
  clear hK K hb4 HZ HR3 hoa
  (refine c_norm (a' := ?_) ?_ ?_; rotate_left; (focus ((try simp only [Act.put, List.setIfInBounds_toArray, List.set_cons_zero, List.set_cons_succ, i64_w, i32_w]); rfl)))
  refine c_eff rfl (fun K hK => ?_)
  go_simp
  refine (Cancels_calls p (some ⟨gU, 0, none⟩) cU _ (Kd.R_reads' HR4.out).2.2).mono ?_
  rintro e w5 ⟨rfl, hb5⟩
  rw [HNC.out]
  refine hK _ _ (fun h => below_step h hb5) ?_
  have HZ5 := Aside0.mk (below_step HZ4.out hb5)
  have HR5 := Aside0.mk (Kd.R_below HR4.out hb5)
  have HA5 := Aside0.mk (HA4.out.below hb5)
  have S5 := Aside0.mk (blk_below S1.out HZ5.out)
  have HB5 := Aside0.mk (below_step HB1.out HZ5.out)
  clear hK K hb5 HZ4 HR4 HA4
  repeat (first | (refine c_pure rfl rfl (by rfl) (v := ?_) ?_ (a' := ?_) ?_ ?_; rotate_left; (focus (intro w'; go_simp; with_reducible rfl)); rotate_left; (focus ((try simp only [Act.put, List.setIfInBounds_toArray, List.set_cons_zero, List.set_cons_succ, i64_w, i32_w]); rfl))) | (refine c_off rfl rfl (by rfl) (a' := ?_) ?_ ?_; rotate_left; (focus ((try simp only [Act.put, List.setIfInBounds_toArray, List.set_cons_zero, List.set_cons_succ, i64_w, i32_w]); rfl))))
  refine c_done ?_
  obtain ⟨p0, p1, p2, p3⟩ := ps_reads S5.out
  have hlen1 := HP.out.len
  go_wp2_with (fail)
  refine (Place_calls add p.fs.length _ (by omega) (by omega)).mono ?_
  rintro e w' ⟨rfl, rfl⟩
  obtain ⟨k, hk⟩ : ∃ k : Nat, add % (p.fs.length : Int) = (k : Int) := ⟨(add % (p.fs.length : Int)).toNat, by have := Int.emod_nonneg add (show (p.fs.length : Int) ≠ 0 by omega); omega⟩
  have hkl : k < p.fs.length := by have := Int.emod_lt_of_pos add (show (0 : Int) < (p.fs.length : Int) by omega); omega
  rw [hk]
  clear hk
  obtain ⟨ad, A0, c0, hAd, a0', hc0, hA0⟩ := at_L2 (Kd.R_reads' HR5.out).2.2 (k : Int) (by omega) (by omega)
  injection hAd with hAd
  subst hAd
  rw [Int.toNat_natCast, rd_L2_at p.fs k hkl, add_plain] at a0'
  rw [rd_L2_at p.fs k hkl] at hA0 hc0
  have h11 := (HP.out.funs _ (List.getElem_mem hkl)).len.2
  obtain ⟨f, hf⟩ : ∃ f, p.fs[k]'hkl = f := ⟨_, rfl⟩
  have HFE := Aside0.mk (show p.fs[k]? = some f by rw [List.getElem?_eq_getElem hkl, hf])
  rw [hf] at a0' hA0 hc0 h11
  have hixk := fun (W : World) => ix31 ⟨gU, 0, none⟩ p.fs.length cU (k : Int) k W (by omega) (by omega) (Int.toNat_natCast k)
  have hix : ∀ W : World, (Instr.indexAt 31 (.slice (some ⟨gU, 0, none⟩) p.fs.length cU) (.int .i64 (k : Int))).run Try.prog W = .ok (.pointer (some ⟨gU, k, none⟩)) W := by
    intro W
    have h := hixk W
    rwa [add_plain] at h
  have HFC := Aside0.mk hA0
  have HKL := Aside0.mk hkl
  have hal := below_alloc (Below.refl w5.heap.size w5) (.cells #[.int .i64 9, .int .i64 0, .int .i64 0, .int .i64 0, .int .i64 13, .int .i64 0, .int .i64 0, .int .i64 0] 26)
  have a0 := cell_below a0' hal
  have p0w := cell_below p0 hal
  have HGU5 := Aside0.mk (Nat.lt_trans HG.out.1 (blk_lt S5.out))
  have HLR := Aside0.mk (lit26_R w5 w.heap.size (fun k => k ≠ gU) [⟨9, 0, 0, 0⟩, ⟨13, 0, 0, 0⟩] _ HB5.out.size (by simp) (reps_2 ⟨9, 0, 0, 0⟩ ⟨13, 0, 0, 0⟩) (Nat.ne_of_gt HGU5.out))
  have HCF := Aside0.mk (Kd.C_below HFC.out hal)
  have HBL := Aside0.mk (below_alloc HB5.out (.cells #[.int .i64 9, .int .i64 0, .int .i64 0, .int .i64 0, .int .i64 13, .int .i64 0, .int .i64 0, .int .i64 0] 26))
  have HRL := Aside0.mk (Kd.R_alloc (Kd.R_mono (ok' := fun k => k < w5.heap.size) (Kd.R_bound HR5.out) (fun k hk => hk.2.2.1)) (.cells #[.int .i64 9, .int .i64 0, .int .i64 0, .int .i64 0, .int .i64 13, .int .i64 0, .int .i64 0, .int .i64 0] 26))
  have HAL := Aside0.mk (HA5.out.below hal)
  have SL := Aside0.mk (blk_below S5.out hal)
  have HGA5 := Aside0.mk HA5.out.lt
  have HG55 := Aside0.mk (blk_lt S5.out)
  clear hf hixk hA0 a0' hal hc0 hkl p0 p1 p2 p3 HR5 HA5 S5
  go_wp2_with (at_builtin; refine Kd.R_append_rows k26 (Rr := k26.K _) (w0 := w) w.heap.size rfl (.tmp 29) (.tmp 34) 38 26 (.agg #[.int .i64 0, .int .i64 0, .int .i64 0, .int .i64 0]) 32 rfl Try.underlying38 info26z rfl (by decide) (by decide) (.slice (some ⟨w5.heap.size, 0, none⟩) 2 2) [⟨9, 0, 0, 0⟩, ⟨13, 0, 0, 0⟩] f A0 f.length c0 (fun k => k ≠ gU) (fun _ => False) rfl rfl HLR.out HCF.out km26 (fun _ hk => hk.elim) (fun k hk => Nat.ne_of_gt (Nat.lt_of_lt_of_le HGU5.out (Nat.le_trans (by rw [World.size_alloc]; omega) hk))) HBL.out HBL.out.size (len_13 _ h11 _ (by omega)) ?_; intro v6 w6 ho6 hb6 hg6 _; obtain ⟨A6, c6, h6⟩ := Kd.R_slice ho6; obtain ⟨n6, hn6⟩ : ∃ n6, ([(⟨9, 0, 0, 0⟩ : S26), ⟨13, 0, 0, 0⟩] ++ f).length = n6 := ⟨_, rfl⟩; rw [hn6] at h6; subst h6; have hw5s := (show w5.heap.size < (w5.alloc (.cells #[.int .i64 9, .int .i64 0, .int .i64 0, .int .i64 0, .int .i64 13, .int .i64 0, .int .i64 0, .int .i64 0] 26)).heap.size by rw [World.size_alloc]; omega); have S6 := Aside0.mk ((hg6.block g5 (Nat.lt_trans HG55.out hw5s) (ne_some (Nat.ne_of_lt HG55.out))).trans SL.out); have HR6 := Aside0.mk (Kd.R_mono (ok' := fun _ => True) (Kd.R_grown HRL.out hg6 (fun k hk => ne_some (Nat.ne_of_lt hk))) (fun _ _ => trivial)); have HA6 := Aside0.mk (show OI w6 w.heap.size ga p.fs.length _ from own_move HAL.out (fun k hk => hg6.block k (own_lt HAL.out k hk) (own_ne hk (Nat.ne_of_lt HGA5.out)))); have HO6 := Aside0.mk ho6; have HB6 := Aside0.mk hb6; have hq := rp_free HR6.out k; obtain ⟨u9, hu9⟩ := rp_cell HR6.out k HKL.out; clear ho6 hb6 hg6 hn6 hw5s a0 p0w; obtain ⟨p0, p1, p2, p3⟩ := ps_reads S6.out; have S7 := Aside0.mk ((Below.heap_setCell w6 ⟨gU, k, none⟩ (.slice A6 n6 c6) g5 (Nat.ne_of_gt HG.out.1)).trans S6.out); obtain ⟨t0, t1, t2, t3⟩ := ps_reads S7.out)
  have HR7 := Aside0.mk (put_fun HR6.out HKL.out HO6.out (fun _ h => ⟨trivial, h⟩))
  have HB7 := Aside0.mk (HB6.out.setCell (p := ⟨gU, k, none⟩) HG0.out (.slice A6 n6 c6))
  have HA7 := Aside0.mk (OI.far HA6.out ⟨gU, k, none⟩ (.slice A6 n6 c6) (Nat.ne_of_lt (Nat.lt_trans HG.out.1 HGA.out)))
  clear p0 p1 p2 p3 t0 t1 t2 t3 hq hu9 hix HR6 HB6 HA6 S6 HLR HCF HBL HRL HAL SL
  revert S7 HR7 HB7 HA7
  generalize w6.setCell ⟨gU, k, none⟩ (.slice A6 n6 c6) = w7
  intro S7 HR7 HB7 HA7
  obtain ⟨fs2, hfs2⟩ : ∃ fs2, p.fs.set k ([⟨9, 0, 0, 0⟩, ⟨13, 0, 0, 0⟩] ++ f) = fs2 := ⟨_, rfl⟩
  have HF2 := Aside0.mk hfs2
  have HN2 := Aside0.mk (show fs2.length = p.fs.length by rw [← hfs2, List.length_set])
  rw [hfs2] at HR7
  clear hfs2
  have HFW2 := Aside0.mk (show FewB fs2 by rw [← HF2.out]; exact few_set HFW.out (by rw [List.length_append]; simp only [List.length_cons, List.length_nil]; omega))
  refine (Forks' fs2 p.fu p.de p.fl p.fs.length HN2.out (some ⟨gU, 0, none⟩) cU _ (Kd.R_reads' HR7.out).2.2 HFW2.out).mono ?_
  rintro e w8 ⟨gb, rfl, hob, hb8⟩
  have HR8 := Aside0.mk (Kd.R_below HR7.out hb8)
  have HA8 := Aside0.mk (HA7.out.below hb8)
  have HBB8 := Aside0.mk hob
  have S8 := Aside0.mk (blk_below S7.out hb8)
  have HB8 := Aside0.mk (below_step HB7.out hb8)
  clear hob hb8 HR7 HA7 S7 HB7
  obtain ⟨p0, p1, p2, p3⟩ := ps_reads S8.out
  go_wp2_with (fail)
  clear p0 p1 p2 p3
  go_loopw [11] (fun u w' => ∃ i : Nat, u = .int .i64 i ∧ i ≤ p.fs.length ∧ Aside0 (Below w8.heap.size w8 w')) (fun u _ => p.fs.length - (intOf u).toNat)
  case atStart => exact ⟨0, rfl, by omega, ⟨Below.refl _ _⟩⟩
  case round =>
    obtain ⟨i, rfl, hi, HI⟩ := hrel
    by_cases hil : i < p.fs.length
    · have hil2 : i < fs2.length := by have := HN2.out; omega
      have ca := HA8.out.cell i hil
      have cb := HBB8.out.cell i hil
      rw [cnt_at p.fs i hil] at ca
      rw [cnt_at fs2 i hil2] at cb
      have caw := cell_below ca HI.out
      have cbw := cell_below cb HI.out
      have HW := Aside0.mk (show wrap64 ((i : Int) + 1) = (i : Int) + 1 from wrap64_id _ (by omega))
      have ixa : ∀ W : World, (Instr.indexAt 30 (.slice (some ⟨ga, 0, none⟩) p.fs.length p.fs.length) (.int .i64 (i : Int))).run Try.prog W = .ok (.pointer (some ⟨ga, i, none⟩)) W := by
        intro W
        have h := ix30 ⟨ga, 0, none⟩ p.fs.length p.fs.length (i : Int) i W (by omega) (by omega) (Int.toNat_natCast i)
        rwa [add_plain] at h
      have ixb : ∀ W : World, (Instr.indexAt 30 (.slice (some ⟨gb, 0, none⟩) p.fs.length p.fs.length) (.int .i64 (i : Int))).run Try.prog W = .ok (.pointer (some ⟨gb, i, none⟩)) W := by
        intro W
        have h := ix30 ⟨gb, 0, none⟩ p.fs.length p.fs.length (i : Int) i W (by omega) (by omega) (Int.toNat_natCast i)
        rwa [add_plain] at h
      have HIL := Aside0.mk hil
      have hid : decide (i < p.fs.length) = true := decide_eq_true hil
      by_cases hik : i = k
      · have e1 : ((i : Int) != (k : Int)) = false := by rw [hik]; exact bne_self_eq_false _
        have e2 : ((i : Int) == (k : Int)) = true := by rw [hik]; exact beq_self_eq_true _
        obtain ⟨m, hm⟩ : ∃ m, cntN (p.fs[i]'hil) = m := ⟨_, rfl⟩
        have hfi : p.fs[i]'hil = f := by
          have h := HFE.out
          rw [← hik, List.getElem?_eq_getElem hil] at h
          exact Option.some.inj h
        have h2 : cntN (fs2[i]'hil2) = m + 1 := by
          have h3 : fs2[i]? = some ([⟨9, 0, 0, 0⟩, ⟨13, 0, 0, 0⟩] ++ f) := by rw [← HF2.out, hik, List.getElem?_set_self HKL.out]
          rw [List.getElem?_eq_getElem hil2] at h3
          rw [Option.some.inj h3, cnt_two, ← hm, hfi]
        have hm11 : m ≤ 11 := by
          have := cnt_le f f.length
          rw [List.take_length] at this
          rw [← hm, hfi]
          omega
        rw [hm] at caw
        rw [h2] at cbw
        clear ca cb hm hfi h2 hik hil hil2
        go_wp2_with (fail)
        go_quiet (fail)
        go_wp2_with (fail)
        go_roundw
        case rel => exact ⟨i + 1, by first | exact num_next HW.out | rfl, Nat.succ_le_of_lt HIL.out, ⟨pw_below_drewN HI.out _⟩⟩
        case measure => first | exact meas_next HIL.out HW.out | (simp only [intOf]; exact cs_meas' HIL.out)
      · have e1 : ((i : Int) != (k : Int)) = true := bne_iff_ne.mpr (by omega)
        have e2 : ((i : Int) == (k : Int)) = false := beq_eq_false_iff_ne.mpr (by omega)
        obtain ⟨m, hm⟩ : ∃ m, cntN (p.fs[i]'hil) = m := ⟨_, rfl⟩
        have h2 : cntN (fs2[i]'hil2) = m := by
          have h3 : fs2[i]? = p.fs[i]? := by rw [← HF2.out, List.getElem?_set_ne (Ne.symm hik)]
          rw [List.getElem?_eq_getElem hil2, List.getElem?_eq_getElem hil] at h3
          rw [Option.some.inj h3, hm]
        rw [hm] at caw
        rw [h2] at cbw
        have e3 : ((m : Int) != (m : Int)) = false := bne_self_eq_false _
        clear ca cb hm h2 hik hil hil2
        go_wp2_with (fail)
        go_quiet (fail)
        go_wp2_with (fail)
        go_roundw
        case rel => exact ⟨i + 1, by first | exact num_next HW.out | rfl, Nat.succ_le_of_lt HIL.out, ⟨pw_below_drewN HI.out _⟩⟩
        case measure => first | exact meas_next HIL.out HW.out | (simp only [intOf]; exact cs_meas' HIL.out)
    · have hid : decide (i < p.fs.length) = false := decide_eq_false hil
      have HR9 := Aside0.mk (Kd.R_below HR8.out HI.out)
      have HB9 := Aside0.mk (below_step HB8.out HI.out)
      obtain ⟨p0, p1, p2, p3⟩ := ps_reads (blk_below S8.out HI.out)
      have HCAN := Aside0.mk (show fs2.any canB = true by rw [← HF2.out]; exact any_set HKL.out (can_two f))
      clear hil hi HI
      go_wp2_with (fail)
      refine (Cancels' fs2 p.fu p.de p.fl p.fs.length HN2.out (some ⟨gU, 0, none⟩) cU _ (Kd.R_reads' HR9.out).2.2).mono ?_
      rintro e w10 ⟨rfl, hb10⟩
      rw [HCAN.out]
      have HB10 := Aside0.mk (below_step HB9.out hb10)
      clear hb10 p0 p1 p2 p3
      go_wp2_with (fail)
      refine (vawake_calls _).mono ?_
      rintro e w11 ⟨rfl, hb11⟩
      have HB11 := Aside0.mk (below_step HB10.out hb11)
      clear hb11
      go_wp2_with (fail)
      go_ret
      exact ⟨rfl, HB11.out⟩
end Go.Proofs.Ytmofaahhnokohaa.ValidCounts
