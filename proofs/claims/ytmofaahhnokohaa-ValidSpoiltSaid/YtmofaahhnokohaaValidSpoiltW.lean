/- The walk of ValidSpoilt. -/
import Derived.Test.YtmofaahhnokohaaCode27
namespace Go.Proofs.Ytmofaahhnokohaa.ValidSpoilt
set_option linter.unusedSimpArgs false
set_option linter.unusedVariables false
open Go.RowKit Go.Proofs.YtmofaahhnokohaaW.PrintWords Go.Proofs.YtmofaahhnokohaaW.PrintLast Go.Proofs.YtmofaahhnokohaaW.PrintMore PCodeAll Go.Proofs.YtmofaahhnokohaaW.CanonE Go.Proofs.Ytmofaahhnokohaa.Code Go.Proofs.Ytmofaahhnokohaa.CodeS
attribute [local go_sem] max2_mx min2_mn max_two min_two max_three min_three max_four min_four
theorem Check' (fs : List (List S26)) (fu de fl : Int) (N : Nat) (hN : fs.length = N) (A : Option Addr) (c : Nat) (w : World) (hC : Kd.C (Kd.slice 26 k26) w A fs.length fs) (r : Int) (hr : vErr ⟨fs, fu, de, fl⟩ = r) :
    Calls Try.prog 24 #[.agg #[.slice A N c, .int .i64 fu, .int .i64 de, .int .i64 fl]] w fun e w' => e = .returned (.int .i64 r) ∧ Below w.heap.size w w' := by
  subst hN
  rw [← hr]
  exact Check_calls ⟨fs, fu, de, fl⟩ A c w hC
/-- The program's own place, behind four writes elsewhere. -/
theorem far4 {w : World} {b gf : Nat} {U v0 v1 v2 v3 : Value} {fu de fl : Int} (h : w.heap[b]? = some (.cells #[U, .int .i64 fu, .int .i64 de, .int .i64 fl] 33 (0, 0))) (hne : gf ≠ b) (o : Nat) :
    (w.setCell ⟨gf, o, none⟩ v0).cell? ⟨b, 0, none⟩ = some U ∧ ((w.setCell ⟨gf, o, none⟩ v0).setCell ⟨gf, o + 1, none⟩ v1).cell? ⟨b, 1, none⟩ = some (.int .i64 fu) ∧
      (((w.setCell ⟨gf, o, none⟩ v0).setCell ⟨gf, o + 1, none⟩ v1).setCell ⟨gf, o + 2, none⟩ v2).cell? ⟨b, 2, none⟩ = some (.int .i64 de) ∧
      ((((w.setCell ⟨gf, o, none⟩ v0).setCell ⟨gf, o + 1, none⟩ v1).setCell ⟨gf, o + 2, none⟩ v2).setCell ⟨gf, o + 3, none⟩ v3).cell? ⟨b, 3, none⟩ = some (.int .i64 fl) := by
  have h0 := (Below.heap_setCell w ⟨gf, o, none⟩ v0 b (Ne.symm hne)).trans h
  have h1 := (Below.heap_setCell _ ⟨gf, o + 1, none⟩ v1 b (Ne.symm hne)).trans h0
  have h2 := (Below.heap_setCell _ ⟨gf, o + 2, none⟩ v2 b (Ne.symm hne)).trans h1
  have h3 := (Below.heap_setCell _ ⟨gf, o + 3, none⟩ v3 b (Ne.symm hne)).trans h2
  exact ⟨(ps_reads h0).1, (ps_reads h1).2.1, (ps_reads h2).2.2.1, (ps_reads h3).2.2.2⟩


set_option maxRecDepth 100000 in
set_option maxHeartbeats 2000000 in
theorem ValidSpoilt_calls (n : List Int) (A : Option Addr) (c : Nat) (how at_ : Int) (w : World) (hC : (Kd.int .i64).C w A n.length n) (hc : n.length ≤ c) :
    Calls Try.prog 9 #[.slice A n.length c, .int .i64 how, .int .i64 at_] w fun e w' => e = .returned (.bool true) ∧ Below w.heap.size w w' := by
  by_cases h100 : 100 < n.length
  · have h100' : decide ((100 : Int) < (n.length : Int)) = true := decide_eq_true (by omega)
    clear hC
    go_enter Try.func9, Try.ntmps9
    go_wp2_with (fail)
    refine (vawake_calls _).mono ?_
    rintro e w1 ⟨rfl, hb⟩
    have HB := Aside0.mk hb
    clear hb
    go_wp2_with (fail)
    go_ret
    exact ⟨rfl, HB.out⟩
  have h100' : decide ((100 : Int) < (n.length : Int)) = false := decide_eq_false (by omega)
  clear h100
  have HC := Aside0.mk hC
  clear hC
  go_enter Try.func9, Try.ntmps9
  go_wp2_with (fail)
  refine (ProgS_calls n A c true _ HC.out hc).mono ?_
  rintro e w1 ⟨p, U, rfl, hp, hR, hb⟩
  obtain ⟨gU, cU, rfl, hgU0, hgU1, cells, hgU2⟩ := Kd.S_form hR (by have := hp.len; omega)
  have HP := Aside0.mk hp
  have S1 := Aside0.mk (heap_alloc_new w1 (.cells #[.slice (some ⟨gU, 0, none⟩) p.fs.length cU, .int .i64 p.fu, .int .i64 p.de, .int .i64 p.fl] 33))
  have HB1 := Aside0.mk (hb.alloc hb.size (.cells #[.slice (some ⟨gU, 0, none⟩) p.fs.length cU, .int .i64 p.fu, .int .i64 p.de, .int .i64 p.fl] 33))
  have HS1 := Aside0.mk (show SP _ _ _ _ _ from Kd.S_alloc hR (.cells #[.slice (some ⟨gU, 0, none⟩) p.fs.length cU, .int .i64 p.fu, .int .i64 p.de, .int .i64 p.fl] 33))
  have HG := Aside0.mk (⟨hgU1, hb.size⟩ : gU < w1.heap.size ∧ w.heap.size ≤ w1.heap.size)
  have HG0 := Aside0.mk hgU0
  clear HC hp hR hb hgU0 hgU1 hgU2 h100' hc
  obtain ⟨⟨p0, p1, p2, p3⟩, ⟨q0, q1, q2, q3⟩⟩ := row4' S1.out
  go_wp2_with (fail)
  clear p0 p1 p2 p3 q0 q1 q2 q3
  revert S1 HB1 HS1 HG
  generalize w1.alloc (.cells #[.slice (some ⟨gU, 0, none⟩) p.fs.length cU, .int .i64 p.fu, .int .i64 p.de, .int .i64 p.fl] 33) = w2
  generalize w1.heap.size = g7
  intro S1 HB1 HS1 HG
  refine (CopyProg_calls p (some ⟨gU, 0, none⟩) cU _ (lend_reads HS1.out).2 (prog_few HP.out)).mono ?_
  rintro e w3 ⟨V, rfl, hRV, hb3⟩
  obtain ⟨AV, cV, rfl⟩ := Kd.R_slice hRV
  have HCV := Aside0.mk (Kd.R_reads' hRV).2.2
  have HS3 := Aside0.mk (show SP _ _ _ _ _ from Kd.S_below HS1.out hb3)
  have S3 := Aside0.mk (blk_below S1.out hb3)
  have HB3 := Aside0.mk (below_step HB1.out hb3)
  clear hRV hb3 HS1 HB1 S1
  go_wp2_with (fail)
  refine (Check' p.fs p.fu p.de p.fl p.fs.length rfl AV cV _ HCV.out 0 (prog_verr HP.out)).mono ?_
  rintro e w4 ⟨rfl, hb4⟩
  have HS4 := Aside0.mk (show SP _ _ _ _ _ from Kd.S_below HS3.out hb4)
  have S4 := Aside0.mk (blk_below S3.out hb4)
  have HB4 := Aside0.mk (below_step HB3.out hb4)
  clear hb4 HS3 HB3 S3 HCV
  obtain ⟨i, hi⟩ : ∃ i : Nat, at_ % (p.fs.length : Int) = (i : Int) := ⟨(at_ % (p.fs.length : Int)).toNat, by have := Int.emod_nonneg at_ (show (p.fs.length : Int) ≠ 0 by have := HP.out.len; omega); omega⟩
  have hil : i < p.fs.length := by have := HP.out.len; have := Int.emod_lt_of_pos at_ (show (0 : Int) < (p.fs.length : Int) by omega); omega
  obtain ⟨f, hf⟩ : ∃ f, p.fs[i]? = some f := ⟨_, List.getElem?_eq_getElem hil⟩
  have HF := Aside0.mk hf
  have hfl := flen HP.out hf
  obtain ⟨gf, cf, hcell, hgf0, hgf1, hcf, hgfc⟩ := lend_head HS4.out hf (by omega)
  have HCE := Aside0.mk hcell
  have HGF := Aside0.mk (⟨hgf0, hgf1⟩ : w.heap.size ≤ gf ∧ gf < w4.heap.size)
  have HGC := Aside0.mk hgfc
  have HI := Aside0.mk hi
  have HIL := Aside0.mk hil
  have HFL := Aside0.mk hfl
  have HCF := Aside0.mk hcf
  have hix : ∀ W : World, (Instr.indexAt 31 (.slice (some ⟨gU, 0, none⟩) p.fs.length cU) (.int .i64 (i : Int))).run Try.prog W = .ok (.pointer (some ⟨gU, i, none⟩)) W := by
    intro W
    have h := ix31 ⟨gU, 0, none⟩ p.fs.length cU (i : Int) i W (by omega) (by omega) (Int.toNat_natCast i)
    rwa [add_plain] at h
  clear hf hcell hgf0 hgf1 hgfc hi hil hfl hcf
  go_wp2_with (fail)
  refine canon [.pure 0, .pure 2, .pure 3, .held 1, .held 4, .pure 5, .eff 6, .pure 7, .held 8, .pure 9] [] (fun W => Below w4.heap.size w4 W) (by kernel_rfl) rfl rfl (by kernel_rfl) (by intro c d v a w h; cases d <;> exact h) ?_
  intro w5 hb5 _
  have HZ := Aside0.mk hb5
  clear hb5
  repeat (first | (refine c_pure rfl rfl (by rfl) (v := ?_) ?_ (a' := ?_) ?_ ?_; rotate_left; (focus (intro w'; go_simp; with_reducible rfl)); rotate_left; (focus ((try simp only [Act.put, List.setIfInBounds_toArray, List.set_cons_zero, List.set_cons_succ, i64_w, i32_w]); rfl))) | (refine c_off rfl rfl (by rfl) (a' := ?_) ?_ ?_; rotate_left; (focus ((try simp only [Act.put, List.setIfInBounds_toArray, List.set_cons_zero, List.set_cons_succ, i64_w, i32_w]); rfl))))
  (refine c_cell rfl rfl (by rfl) (HZ.out) 31 (.tmp 21) rfl (⟨g7, 0, none⟩) rfl (.slice (some ⟨gU, 0, none⟩) p.fs.length cU) (fun w' hS' => (ps_reads (blk_below S4.out hS')).1) Try.underlying31 rfl (a' := ?_) ?_ ?_; rotate_left; (focus ((try simp only [Act.put, List.setIfInBounds_toArray, List.set_cons_zero, List.set_cons_succ, i64_w, i32_w]); rfl)))
  (refine c_cell rfl rfl (by rfl) (HZ.out) 31 (.tmp 24) rfl (⟨g7, 0, none⟩) rfl (.slice (some ⟨gU, 0, none⟩) p.fs.length cU) (fun w' hS' => (ps_reads (blk_below S4.out hS')).1) Try.underlying31 rfl (a' := ?_) ?_ ?_; rotate_left; (focus ((try simp only [Act.put, List.setIfInBounds_toArray, List.set_cons_zero, List.set_cons_succ, i64_w, i32_w]); rfl)))
  repeat (first | (refine c_pure rfl rfl (by rfl) (v := ?_) ?_ (a' := ?_) ?_ ?_; rotate_left; (focus (intro w'; go_simp; with_reducible rfl)); rotate_left; (focus ((try simp only [Act.put, List.setIfInBounds_toArray, List.set_cons_zero, List.set_cons_succ, i64_w, i32_w]); rfl))) | (refine c_off rfl rfl (by rfl) (a' := ?_) ?_ ?_; rotate_left; (focus ((try simp only [Act.put, List.setIfInBounds_toArray, List.set_cons_zero, List.set_cons_succ, i64_w, i32_w]); rfl))))
  refine c_eff rfl (fun K hK => ?_)
  go_simp
  refine (Place_calls at_ p.fs.length _ (by have := HP.out.len; omega) (by have := HP.out.len; omega)).mono ?_
  rintro e w' ⟨rfl, rfl⟩
  rw [HI.out]
  refine hK _ _ (fun h => h) ?_
  clear hK K
  repeat (first | (refine c_pure rfl rfl (by rfl) (v := ?_) ?_ (a' := ?_) ?_ ?_; rotate_left; (focus (intro w'; go_simp; with_reducible rfl)); rotate_left; (focus ((try simp only [Act.put, List.setIfInBounds_toArray, List.set_cons_zero, List.set_cons_succ, i64_w, i32_w]); rfl))) | (refine c_off rfl rfl (by rfl) (a' := ?_) ?_ ?_; rotate_left; (focus ((try simp only [Act.put, List.setIfInBounds_toArray, List.set_cons_zero, List.set_cons_succ, i64_w, i32_w]); rfl))))
  (refine c_cell rfl rfl (by rfl) (HZ.out) 38 (.tmp 28) rfl (⟨gU, i, none⟩) rfl (.slice (some ⟨gf, 0, none⟩) f.length cf) (fun w' hS' => cell_below HCE.out hS') Try.underlying38 rfl (a' := ?_) ?_ ?_; rotate_left; (focus ((try simp only [Act.put, List.setIfInBounds_toArray, List.set_cons_zero, List.set_cons_succ, i64_w, i32_w]); rfl)))
  repeat (first | (refine c_pure rfl rfl (by rfl) (v := ?_) ?_ (a' := ?_) ?_ ?_; rotate_left; (focus (intro w'; go_simp; with_reducible rfl)); rotate_left; (focus ((try simp only [Act.put, List.setIfInBounds_toArray, List.set_cons_zero, List.set_cons_succ, i64_w, i32_w]); rfl))) | (refine c_off rfl rfl (by rfl) (a' := ?_) ?_ ?_; rotate_left; (focus ((try simp only [Act.put, List.setIfInBounds_toArray, List.set_cons_zero, List.set_cons_succ, i64_w, i32_w]); rfl))))
  refine c_done ?_
  have HS5 := Aside0.mk (show SP _ _ _ _ _ from Kd.S_below HS4.out HZ.out)
  have S5 := Aside0.mk (blk_below S4.out HZ.out)
  have HB5 := Aside0.mk (below_step HB4.out HZ.out)
  have HC5 := Aside0.mk (cell_below HCE.out HZ.out)
  have HGC5 := Aside0.mk (show ∃ cells, w5.heap[gf]? = some (.cells cells 26 (0, 0)) from by obtain ⟨cells, h⟩ := HGC.out; exact ⟨cells, blk_below h HZ.out⟩)
  have HGF5 := Aside0.mk (⟨HGF.out.1, Nat.lt_of_lt_of_le HGF.out.2 HZ.out.size⟩ : w.heap.size ≤ gf ∧ gf < w5.heap.size)
  have HNG := Aside0.mk (show gf ≠ g7 from by
    intro he
    obtain ⟨cells, h⟩ := HGC5.out
    rw [he, S5.out] at h
    injection h with h
    injection h with _ h
    exact absurd h (by decide))
  obtain ⟨k, hk⟩ : ∃ k : Nat, at_ % (f.length : Int) = (k : Int) := ⟨(at_ % (f.length : Int)).toNat, by have := Int.emod_nonneg at_ (show (f.length : Int) ≠ 0 by have := HFL.out; omega); omega⟩
  have HKL := Aside0.mk (show k < f.length by have := HFL.out; have := Int.emod_lt_of_pos at_ (show (0 : Int) < (f.length : Int) by omega); omega)
  have HK := Aside0.mk hk
  clear HS4 S4 HB4 HCE HGC HGF HZ hk hix
  go_wp2_with (fail)
  refine (Place_calls at_ f.length _ (by have := HFL.out; omega) (by have := HFL.out; omega)).mono ?_
  rintro e w' ⟨rfl, rfl⟩
  rw [HK.out]
  go_wp2_with (fail)
  refine (Place_calls how 8 _ (by omega) (by omega)).mono ?_
  rintro e w' ⟨rfl, rfl⟩
  obtain ⟨p0, p1, p2, p3⟩ := ps_reads S5.out
  have hm : how % 8 = 0 ∨ how % 8 = 1 ∨ how % 8 = 2 ∨ how % 8 = 3 ∨ how % 8 = 4 ∨ how % 8 = 5 ∨ how % 8 = 6 ∨ how % 8 = 7 := by omega
  rcases hm with hm | hm | hm | hm | hm | hm | hm | hm
  · rw [hm]
    clear hm
    obtain ⟨n, hn⟩ : ∃ n, f.length = n + 1 := ⟨f.length - 1, by have := HFL.out; omega⟩
    obtain ⟨o, ho⟩ : ∃ o, n * 4 = o := ⟨_, rfl⟩
    have hix : ∀ W : World, (Instr.indexAt 38 (.slice (some ⟨gf, 0, none⟩) (n + 1 : Nat) cf) (.int .i64 (n : Int))).run Try.prog W = .ok (.pointer (some ⟨gf, o, none⟩)) W := by
      intro W
      have h := ix38 ⟨gf, 0, none⟩ (n + 1) cf (n : Int) o W (by omega) (by omega) (by rw [Int.toNat_natCast]; exact ho)
      rwa [add_plain] at h
    obtain ⟨x, _, ⟨c0, c1, c2, c3⟩, hfr, hput, _⟩ := lend_ins HS5.out HF.out HC5.out (show n < f.length by have := HFL.out; omega) ho
    have f0 : w5.frozen? ⟨gf, o, none⟩ = false := hfr 0
    have f1 := hfr 1
    have f2 := hfr 2
    have f3 := hfr 3
    have HPUT := Aside0.mk (hput ⟨14, 0, 0, 0⟩)
    have HBP := Aside0.mk ((((HB5.out.setCell (p := ⟨gf, o, none⟩) HGF5.out.1 (.int .i64 (14))).setCell (p := ⟨gf, o + 1, none⟩) HGF5.out.1 (.int .i64 (0))).setCell (p := ⟨gf, o + 2, none⟩) HGF5.out.1 (.int .i64 (0))).setCell (p := ⟨gf, o + 3, none⟩) HGF5.out.1 (.int .i64 (0)))
    obtain ⟨t0, t1, t2, t3⟩ := far4 (v0 := .int .i64 (14)) (v1 := .int .i64 (0)) (v2 := .int .i64 (0)) (v3 := .int .i64 (0)) S5.out HNG.out o
    rw [hn]
    have HN := Aside0.mk hn
    have hn1 : n ≤ 11 := by have := HFL.out; omega
    clear hn ho hfr hput
    go_wp2_with (fail)
    refine (Check' (p.fs.set i (f.set n ⟨14, 0, 0, 0⟩)) p.fu p.de p.fl p.fs.length (lend_reads HPUT.out).1 (some ⟨gU, 0, none⟩) cU _ (lend_reads HPUT.out).2 5 (spoilt0 HP.out HF.out HN.out)).mono ?_
    rintro e w6 ⟨rfl, hb6⟩
    have HB6 := Aside0.mk (below_step HBP.out hb6)
    clear hb6
    go_wp2_with (fail)
    refine (vawake_calls _).mono ?_
    rintro e w7 ⟨rfl, hb7⟩
    have HB7 := Aside0.mk (below_step HB6.out hb7)
    clear hb7
    go_wp2_with (fail)
    go_ret
    exact ⟨rfl, HB7.out⟩
  · rw [hm]
    clear hm
    obtain ⟨o, ho⟩ : ∃ o, 0 * 4 = o := ⟨_, rfl⟩
    obtain ⟨x, _, ⟨c0, c1, c2, c3⟩, hfr, hput, _⟩ := lend_ins HS5.out HF.out HC5.out (show 0 < f.length by have := HFL.out; omega) ho
    have f0 : w5.frozen? ⟨gf, o, none⟩ = false := hfr 0
    have f1 := hfr 1
    have f2 := hfr 2
    have f3 := hfr 3
    have HPUT := Aside0.mk (hput ⟨7, f.length, 0, 0⟩)
    have HBP := Aside0.mk ((((HB5.out.setCell (p := ⟨gf, o, none⟩) HGF5.out.1 (.int .i64 (7))).setCell (p := ⟨gf, o + 1, none⟩) HGF5.out.1 (.int .i64 (f.length))).setCell (p := ⟨gf, o + 2, none⟩) HGF5.out.1 (.int .i64 (0))).setCell (p := ⟨gf, o + 3, none⟩) HGF5.out.1 (.int .i64 (0)))
    obtain ⟨t0, t1, t2, t3⟩ := far4 (v0 := .int .i64 (7)) (v1 := .int .i64 (f.length)) (v2 := .int .i64 (0)) (v3 := .int .i64 (0)) S5.out HNG.out o
    have ho' : o = 0 := by omega
    subst ho'
    have hix : ∀ W : World, (Instr.indexAt 38 (.slice (some ⟨gf, 0, none⟩) f.length cf) (.int .i64 0)).run Try.prog W = .ok (.pointer (some ⟨gf, 0, none⟩)) W := by
      intro W
      have h := ix38 ⟨gf, 0, none⟩ f.length cf 0 0 W (by omega) (by have := HFL.out; omega) rfl
      rwa [add_plain] at h
    clear ho hfr hput
    go_wp2_with (fail)
    refine (Check' (p.fs.set i (f.set 0 ⟨7, f.length, 0, 0⟩)) p.fu p.de p.fl p.fs.length (lend_reads HPUT.out).1 (some ⟨gU, 0, none⟩) cU _ (lend_reads HPUT.out).2 5 (spoilt1 HP.out HF.out)).mono ?_
    rintro e w6 ⟨rfl, hb6⟩
    have HB6 := Aside0.mk (below_step HBP.out hb6)
    clear hb6
    go_wp2_with (fail)
    refine (vawake_calls _).mono ?_
    rintro e w7 ⟨rfl, hb7⟩
    have HB7 := Aside0.mk (below_step HB6.out hb7)
    clear hb7
    go_wp2_with (fail)
    go_ret
    exact ⟨rfl, HB7.out⟩
  · rw [hm]
    clear hm
    obtain ⟨o, ho⟩ : ∃ o, 0 * 4 = o := ⟨_, rfl⟩
    obtain ⟨x, _, ⟨c0, c1, c2, c3⟩, hfr, hput, _⟩ := lend_ins HS5.out HF.out HC5.out (show 0 < f.length by have := HFL.out; omega) ho
    have f0 : w5.frozen? ⟨gf, o, none⟩ = false := hfr 0
    have f1 := hfr 1
    have f2 := hfr 2
    have f3 := hfr 3
    have HPUT := Aside0.mk (hput ⟨8, 0, f.length, 0⟩)
    have HBP := Aside0.mk ((((HB5.out.setCell (p := ⟨gf, o, none⟩) HGF5.out.1 (.int .i64 (8))).setCell (p := ⟨gf, o + 1, none⟩) HGF5.out.1 (.int .i64 (0))).setCell (p := ⟨gf, o + 2, none⟩) HGF5.out.1 (.int .i64 (f.length))).setCell (p := ⟨gf, o + 3, none⟩) HGF5.out.1 (.int .i64 (0)))
    obtain ⟨t0, t1, t2, t3⟩ := far4 (v0 := .int .i64 (8)) (v1 := .int .i64 (0)) (v2 := .int .i64 (f.length)) (v3 := .int .i64 (0)) S5.out HNG.out o
    have ho' : o = 0 := by omega
    subst ho'
    have hix : ∀ W : World, (Instr.indexAt 38 (.slice (some ⟨gf, 0, none⟩) f.length cf) (.int .i64 0)).run Try.prog W = .ok (.pointer (some ⟨gf, 0, none⟩)) W := by
      intro W
      have h := ix38 ⟨gf, 0, none⟩ f.length cf 0 0 W (by omega) (by have := HFL.out; omega) rfl
      rwa [add_plain] at h
    clear ho hfr hput
    go_wp2_with (fail)
    refine (Check' (p.fs.set i (f.set 0 ⟨8, 0, f.length, 0⟩)) p.fu p.de p.fl p.fs.length (lend_reads HPUT.out).1 (some ⟨gU, 0, none⟩) cU _ (lend_reads HPUT.out).2 5 (spoilt2 HP.out HF.out)).mono ?_
    rintro e w6 ⟨rfl, hb6⟩
    have HB6 := Aside0.mk (below_step HBP.out hb6)
    clear hb6
    go_wp2_with (fail)
    refine (vawake_calls _).mono ?_
    rintro e w7 ⟨rfl, hb7⟩
    have HB7 := Aside0.mk (below_step HB6.out hb7)
    clear hb7
    go_wp2_with (fail)
    go_ret
    exact ⟨rfl, HB7.out⟩
  · rw [hm]
    clear hm
    obtain ⟨o, ho⟩ : ∃ o, 0 * 4 = o := ⟨_, rfl⟩
    obtain ⟨x, _, ⟨c0, c1, c2, c3⟩, hfr, hput, _⟩ := lend_ins HS5.out HF.out HC5.out (show 0 < f.length by have := HFL.out; omega) ho
    have f0 : w5.frozen? ⟨gf, o, none⟩ = false := hfr 0
    have f1 := hfr 1
    have f2 := hfr 2
    have f3 := hfr 3
    have HPUT := Aside0.mk (hput ⟨9, 0, p.fs.length, 0⟩)
    have HBP := Aside0.mk ((((HB5.out.setCell (p := ⟨gf, o, none⟩) HGF5.out.1 (.int .i64 (9))).setCell (p := ⟨gf, o + 1, none⟩) HGF5.out.1 (.int .i64 (0))).setCell (p := ⟨gf, o + 2, none⟩) HGF5.out.1 (.int .i64 (p.fs.length))).setCell (p := ⟨gf, o + 3, none⟩) HGF5.out.1 (.int .i64 (0)))
    obtain ⟨t0, t1, t2, t3⟩ := far4 (v0 := .int .i64 (9)) (v1 := .int .i64 (0)) (v2 := .int .i64 (p.fs.length)) (v3 := .int .i64 (0)) S5.out HNG.out o
    have ho' : o = 0 := by omega
    subst ho'
    have hix : ∀ W : World, (Instr.indexAt 38 (.slice (some ⟨gf, 0, none⟩) f.length cf) (.int .i64 0)).run Try.prog W = .ok (.pointer (some ⟨gf, 0, none⟩)) W := by
      intro W
      have h := ix38 ⟨gf, 0, none⟩ f.length cf 0 0 W (by omega) (by have := HFL.out; omega) rfl
      rwa [add_plain] at h
    clear ho hfr hput
    go_wp2_with (fail)
    refine (Check' (p.fs.set i (f.set 0 ⟨9, 0, p.fs.length, 0⟩)) p.fu p.de p.fl p.fs.length (lend_reads HPUT.out).1 (some ⟨gU, 0, none⟩) cU _ (lend_reads HPUT.out).2 5 (spoilt3 HP.out HF.out)).mono ?_
    rintro e w6 ⟨rfl, hb6⟩
    have HB6 := Aside0.mk (below_step HBP.out hb6)
    clear hb6
    go_wp2_with (fail)
    refine (vawake_calls _).mono ?_
    rintro e w7 ⟨rfl, hb7⟩
    have HB7 := Aside0.mk (below_step HB6.out hb7)
    clear hb7
    go_wp2_with (fail)
    go_ret
    exact ⟨rfl, HB7.out⟩
  · rw [hm]
    clear hm
    obtain ⟨o, ho⟩ : ∃ o, 0 * 4 = o := ⟨_, rfl⟩
    obtain ⟨x, _, ⟨c0, c1, c2, c3⟩, hfr, hput, _⟩ := lend_ins HS5.out HF.out HC5.out (show 0 < f.length by have := HFL.out; omega) ho
    have f0 : w5.frozen? ⟨gf, o, none⟩ = false := hfr 0
    have f1 := hfr 1
    have f2 := hfr 2
    have f3 := hfr 3
    have HPUT := Aside0.mk (hput ⟨11, p.fu, 0, 0⟩)
    have HBP := Aside0.mk ((((HB5.out.setCell (p := ⟨gf, o, none⟩) HGF5.out.1 (.int .i64 (11))).setCell (p := ⟨gf, o + 1, none⟩) HGF5.out.1 (.int .i64 (p.fu))).setCell (p := ⟨gf, o + 2, none⟩) HGF5.out.1 (.int .i64 (0))).setCell (p := ⟨gf, o + 3, none⟩) HGF5.out.1 (.int .i64 (0)))
    obtain ⟨t0, t1, t2, t3⟩ := far4 (v0 := .int .i64 (11)) (v1 := .int .i64 (p.fu)) (v2 := .int .i64 (0)) (v3 := .int .i64 (0)) S5.out HNG.out o
    have ho' : o = 0 := by omega
    subst ho'
    have hix : ∀ W : World, (Instr.indexAt 38 (.slice (some ⟨gf, 0, none⟩) f.length cf) (.int .i64 0)).run Try.prog W = .ok (.pointer (some ⟨gf, 0, none⟩)) W := by
      intro W
      have h := ix38 ⟨gf, 0, none⟩ f.length cf 0 0 W (by omega) (by have := HFL.out; omega) rfl
      rwa [add_plain] at h
    clear ho hfr hput
    go_wp2_with (fail)
    refine (Check' (p.fs.set i (f.set 0 ⟨11, p.fu, 0, 0⟩)) p.fu p.de p.fl p.fs.length (lend_reads HPUT.out).1 (some ⟨gU, 0, none⟩) cU _ (lend_reads HPUT.out).2 5 (spoilt4 HP.out HF.out)).mono ?_
    rintro e w6 ⟨rfl, hb6⟩
    have HB6 := Aside0.mk (below_step HBP.out hb6)
    clear hb6
    go_wp2_with (fail)
    refine (vawake_calls _).mono ?_
    rintro e w7 ⟨rfl, hb7⟩
    have HB7 := Aside0.mk (below_step HB6.out hb7)
    clear hb7
    go_wp2_with (fail)
    go_ret
    exact ⟨rfl, HB7.out⟩
  · rw [hm]
    clear hm
    obtain ⟨o, ho⟩ : ∃ o, k * 4 = o := ⟨_, rfl⟩
    have hix : ∀ W : World, (Instr.indexAt 38 (.slice (some ⟨gf, 0, none⟩) f.length cf) (.int .i64 (k : Int))).run Try.prog W = .ok (.pointer (some ⟨gf, o, none⟩)) W := by
      intro W
      have h := ix38 ⟨gf, 0, none⟩ f.length cf (k : Int) o W (by omega) (by have := HKL.out; omega) (by rw [Int.toNat_natCast]; exact ho)
      rwa [add_plain] at h
    obtain ⟨x, _, ⟨c0, c1, c2, c3⟩, hfr, _, hput⟩ := lend_ins HS5.out HF.out HC5.out HKL.out ho
    have f0 : w5.frozen? ⟨gf, o, none⟩ = false := hfr 0
    have HPUT := Aside0.mk hput
    have HBP := Aside0.mk (HB5.out.setCell (p := ⟨gf, o, none⟩) HGF5.out.1 (.int .i64 16))
    obtain ⟨t0, t1, t2, t3⟩ := ps_reads ((Below.heap_setCell w5 ⟨gf, o, none⟩ (.int .i64 16) g7 (Ne.symm HNG.out)).trans S5.out)
    clear ho hfr hput
    go_wp2_with (fail)
    refine (Check' (p.fs.set i (f.set k ⟨16, x.f1, x.f2, x.f3⟩)) p.fu p.de p.fl p.fs.length (lend_reads HPUT.out).1 (some ⟨gU, 0, none⟩) cU _ (lend_reads HPUT.out).2 1 (spoilt5 HP.out HF.out HKL.out)).mono ?_
    rintro e w6 ⟨rfl, hb6⟩
    have HB6 := Aside0.mk (below_step HBP.out hb6)
    clear hb6
    go_wp2_with (fail)
    refine (vawake_calls _).mono ?_
    rintro e w7 ⟨rfl, hb7⟩
    have HB7 := Aside0.mk (below_step HB6.out hb7)
    clear hb7
    go_wp2_with (fail)
    go_ret
    exact ⟨rfl, HB7.out⟩
  · rw [hm]
    clear hm
    have HSA := Aside0.mk (show SP w5 w.heap.size (fun k => k ≠ g7) (.slice (some ⟨gU, 0, none⟩) p.fs.length cU) p.fs from Kd.S_mono (Kd.S_types HS5.out S5.out (by decide)) (fun k hk => hk.2))
    have HL4 := Aside0.mk HP.out.len
    go_wp2_with (at_builtin; refine Kd.S_append (Kd.slice 26 k26) (w0 := w) w.heap.size rfl (.tmp 83) (.tmp 84) 31 38 (.slice none 0 0) 24 rfl Try.underlying31 info38z rfl (by decide) (by decide) (.slice (some ⟨gU, 0, none⟩) p.fs.length cU) p.fs [] [.slice none 0 0] (fun k => k ≠ g7) (fun _ => False) rfl rfl ⟨_, rfl, Kd.R_nil _ _ _ _ _⟩ (fun _ hk => hk.elim) (fun k hk => Nat.ne_of_gt (Nat.lt_of_lt_of_le (blk_lt S5.out) hk)) (Kd.S_mono HSA.out (fun k hk => ⟨hk, fun h => h⟩)) HB5.out HB5.out.size (by have := HL4.out; omega) ?_; intro v6 w6 ho6 hb6 hg6 _; obtain ⟨A6, c6, h6⟩ := Kd.S_slice ho6; obtain ⟨n6, hn6⟩ : ∃ n6, (p.fs ++ [([] : List S26)]).length = n6 := ⟨_, rfl⟩; rw [hn6] at h6; subst h6; have S6 := Aside0.mk ((hg6.block g7 (blk_lt S5.out) (by intro he; injection he with he; exact absurd he (Nat.ne_of_gt HG.out.1))).trans S5.out); have HS6 := Aside0.mk (show SP _ _ _ _ _ from ho6); have HB6 := Aside0.mk hb6; have S7 := Aside0.mk (blk_put S6.out 0 (.slice A6 n6 c6) (cs' := #[.slice A6 n6 c6, .int .i64 p.fu, .int .i64 p.de, .int .i64 p.fl]) rfl); have q0 := blk_frozen S6.out 0; clear p0 p1 p2 p3 ho6 hb6 hg6; obtain ⟨p0, p1, p2, p3⟩ := ps_reads S6.out; obtain ⟨t0, t1, t2, t3⟩ := ps_reads S7.out)
    have HS7 := Aside0.mk (show SP _ _ _ _ _ from Kd.S_far (p := ⟨g7, 0, none⟩) HS6.out (fun _ h => h) (.slice A6 n6 c6))
    have HB7 := Aside0.mk (HB6.out.setCell (p := ⟨g7, 0, none⟩) (Nat.le_trans HG0.out (Nat.le_of_lt HG.out.1)) (.slice A6 n6 c6))
    refine (Check' (p.fs ++ [[]]) p.fu p.de p.fl n6 (lend_reads HS7.out).1 A6 c6 _ (lend_reads HS7.out).2 5 (spoilt6 HP.out)).mono ?_
    rintro e w6 ⟨rfl, hb6⟩
    have HB6 := Aside0.mk (below_step HB7.out hb6)
    clear hb6
    go_wp2_with (fail)
    refine (vawake_calls _).mono ?_
    rintro e w7 ⟨rfl, hb7⟩
    have HB7 := Aside0.mk (below_step HB6.out hb7)
    clear hb7
    go_wp2_with (fail)
    go_ret
    exact ⟨rfl, HB7.out⟩
  · rw [hm]
    clear hm
    have q3 := blk_frozen S5.out 3
    have HPUT := Aside0.mk (show SP _ _ _ _ _ from Kd.S_set HS5.out S5.out (by decide) 3 (.int .i64 0))
    have HBP := Aside0.mk (HB5.out.setCell (p := ⟨g7, 3, none⟩) (Nat.le_trans HG0.out (Nat.le_of_lt HG.out.1)) (.int .i64 0))
    go_wp2_with (fail)
    refine (Check' p.fs p.fu p.de 0 p.fs.length (lend_reads HPUT.out).1 (some ⟨gU, 0, none⟩) cU _ (lend_reads HPUT.out).2 1 (spoilt7 HP.out)).mono ?_
    rintro e w6 ⟨rfl, hb6⟩
    have HB6 := Aside0.mk (below_step HBP.out hb6)
    clear hb6
    go_wp2_with (fail)
    refine (vawake_calls _).mono ?_
    rintro e w7 ⟨rfl, hb7⟩
    have HB7 := Aside0.mk (below_step HB6.out hb7)
    clear hb7
    go_wp2_with (fail)
    go_ret
    exact ⟨rfl, HB7.out⟩
end Go.Proofs.Ytmofaahhnokohaa.ValidSpoilt
